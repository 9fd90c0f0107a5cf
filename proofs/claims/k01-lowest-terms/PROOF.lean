import PyProof.Rows.All
import Wide.All
import OpenK.AllK
import Wide.FinOn
import KE.KStateDown
import Lean
import HandS.ForMost
import HandS.Defaults
import HandS.IsInst
import HandS.Evl
import HandS.Steps
import HandS.Wide
import HandS.Exc
import HandS.Head0
import HandS.Head1
import HandS.Head2
import HandS.HeadHook1
import HandS.HeadHook2
import HandS.HeadHook3
import HandS.HeadHook4
import HandS.HeadWalk
import PySem.Challenge.RW_meanpace_k01_lowest_terms
set_option Elab.async false
set_option linter.all false
set_option maxRecDepth 100000

set_option maxHeartbeats 4000000
namespace MP
open PySem PySem.Spec PyProof.Rows L2 Evl
/-! ### the layer: a product of any two fitting ints; a def whose body raises nothing -/
theorem op_mulG {X : Cx} : OpR X (binaryOp .Mult) (rI IntMulOk fun i j => .int (i * j)) := opI fun _ _ _ _ _ _ _ hc q => mul_int q hc
theorem okN {P : Program} {w : World} {K : PySem.W.Frag} {mg : Str → Option Value} {base : Heap} {x qual : Str} {params : Arguments} {body : List Stmt} {scope : Scope} {dvs : List V} {kws : List (Str × V)} {f : Addr} {fd : FuncData}
    {CX : CXT} {N ps : List Str} {k : Nat} {sp : Sp} (F : FunD K x qual params body scope dvs kws f fd) (S : FnScope N ps scope) (len : ∀ vs H Q E, sp vs H Q E → vs.length = ps.length)
    (hbody : ∀ (cdv : Value) (A : Around) (outer : List Env) (s : Shared) (H : Hp) (vs : List V) (Q : VK) (E : XK), Room k (A.deeper (envOfC qual scope s.heap.objs.size f cdv)) → sp vs H Q E →
      ∃ t, PSs (cxOf CX P w K mg base N qual scope f cdv A outer s H E).nox body t ∧ t { nx := fun _ H' => Q .non H', rt := Q } (start N vs) H) : FnOk P w K mg base CX (k + 1) f fd ps sp :=
  F.ok S len fun cdv A outer s H vs Q E hr h => by
    obtain ⟨t, a, b⟩ := hbody cdv A outer s H vs Q E hr h
    exact ⟨t, a.nox, b⟩
def RetU (xs : List V) (H : Hp) (Q : VK) : Prop := ∀ p H2, H p = none → Ex H H2 → H2 p = some (.tup xs) → Q (.ref p) H2
theorem RetU.go {xs : List V} {H H' : Hp} {Q : VK} (k : RetU xs H Q) (e : Ex H H') {p : Addr} {H2 : Hp} (hp : H' p = none) (e2 : Ex H' H2) (h : H2 p = some (.tup xs)) : Q (.ref p) H2 := k p H2 (fresh_back e hp) (e.trans e2) h
/-- what a function does, by values: a value; a new list; a new tuple -/
theorem spv_of {sp : Sp} {vs : List V} {H : Hp} {z : V} (h : ∀ H1, Ex H H1 → ∀ Q E, RetV z H1 Q → sp vs H1 Q E) : SpV sp vs H z := fun H1 e Q q E => h H1 e Q E q
theorem ev_callV {σ : L2.St} {H : Hp} {z : V} {sp : Sp} {vs : List V} {E : XK} {ta : TA} (h : EvA ta σ H vs) (hs : ∀ H1, Ex H H1 → ∀ Q E, RetV z H1 Q → sp vs H1 Q E) : Ev (tCall sp [] E ta) σ H z :=
  ev_call (dvs := []) h (by rw [List.append_nil]; exact spv_of hs)
theorem eu_callU {σ : L2.St} {H : Hp} {xs : List V} {sp : Sp} {vs : List V} {E : XK} {ta : TA} (h : EvA ta σ H vs) (hs : ∀ H1, Ex H H1 → ∀ Q E, RetU xs H1 Q → sp vs H1 Q E) : EvU (tCall sp [] E ta) σ H xs := fun H1 e Q q =>
  h H1 e _ fun H2 e2 => by
    show sp (vs ++ []) H2 Q E
    rw [List.append_nil]
    exact hs H2 (e.trans e2) Q E fun p H3 hp e3 h3 => q p H3 (fresh_back e2 hp) (e2.trans e3) h3
theorem el_callL {σ : L2.St} {H : Hp} {xs : List V} {sp : Sp} {vs : List V} {E : XK} {ta : TA} (h : EvA ta σ H vs) (hs : ∀ H1, Ex H H1 → ∀ Q E, RetL xs H1 Q → sp vs H1 Q E) : EvL (tCall sp [] E ta) σ H xs := fun H1 e Q q =>
  h H1 e _ fun H2 e2 => by
    show sp (vs ++ []) H2 Q E
    rw [List.append_nil]
    exact hs H2 (e.trans e2) Q E fun p H3 hp e3 h3 => q p H3 (fresh_back e2 hp) (e2.trans e3) h3
theorem mulok {i j : Int} (a b : Nat) (ha : i.natAbs < 2 ^ a) (hb : j.natAbs < 2 ^ b) (h0 : 0 < a := by decide) (h1 : 0 < b := by decide) (h : a + b ≤ 1000000 := by decide) : IntMulOk i j := (wide_mul ha hb h0 h1 h).ok
theorem ev_lenS {K : PySem.W.Frag} {σ : L2.St} {H : Hp} {ta : TE} {p : Addr} {xs : List V} (ha : Ev ta σ H (.ref p)) (h : SqL K H p xs ∨ SqT K H p xs) : Ev (tCB (rLenS K) (tCons ta tNil)) σ H (.int (xs.length : Int)) := fun H1 e Q q =>
  ha H1 e _ fun H2 e2 => ⟨p, xs, rfl, h.imp (ex_l (e.trans e2)) (ex_t (e.trans e2)), q H2 e2⟩
/-- isinstance(x, a built-in class) -/
theorem ev_isi {K : PySem.W.Frag} {σ : L2.St} {H : Hp} {ta : TE} {v : V} {n : String} {t : Value} {b : Bool} (ha : Ev ta σ H v) (ty : ∀ H1, Ex H H1 → TyX K H1 v t) (e : PySem.W.kitOne K t (.type n) = some b) : Ev (tCB (rIsi K) (tCons ta (tCons (tC (.ty n)) tNil))) σ H (.bl b) := fun H1 e1 Q q =>
  ha H1 e1 _ fun H2 e2 => ⟨v, .ty n, t, .type n, b, rfl, ClsV.ty n, ty H2 (e1.trans e2), e, q H2 e2⟩
theorem isi_int {K : PySem.W.Frag} {σ : L2.St} {H : Hp} {ta : TE} {i : Int} {n : String} {b : Bool} (ha : Ev ta σ H (.int i)) (e : kitB "int" n = some b := by decide +kernel) : Ev (tCB (rIsi K) (tCons ta (tCons (tC (.ty n)) tNil))) σ H (.bl b) :=
  ev_isi ha (fun _ _ => .base (.int i)) (kit_ty e)
theorem isi_tup {K : PySem.W.Frag} {σ : L2.St} {H : Hp} {ta : TE} {p : Addr} {xs : List V} {n : String} {b : Bool} (ha : Ev ta σ H (.ref p)) (h : H p = some (.tup xs)) (e : kitB "tuple" n = some b := by decide +kernel) : Ev (tCB (rIsi K) (tCons ta (tCons (tC (.ty n)) tNil))) σ H (.bl b) :=
  ev_isi ha (fun _ e1 => .base (.tup (e1 _ _ h))) (kit_ty e)
theorem isi_lst {K : PySem.W.Frag} {σ : L2.St} {H : Hp} {ta : TE} {p : Addr} {xs : List V} {n : String} {b : Bool} (ha : Ev ta σ H (.ref p)) (h : H p = some (.lst xs)) (e : kitB "list" n = some b := by decide +kernel) : Ev (tCB (rIsi K) (tCons ta (tCons (tC (.ty n)) tNil))) σ H (.bl b) :=
  ev_isi ha (fun _ e1 => .base (.lst (e1 _ _ h))) (kit_ty e)
def top (i : Nat) : Stmt := PySem.Challenge.pw_meanpace_k01_lowest_terms.main.body.getD i (.Pass ⟨0, 0, 0, 0⟩)
structure Txt (K : PySem.W.Frag) (mg : Str → Option Value) where
  n_bool : mg "bool" = none
  n_int : mg "int" = none
  n_isinstance : mg "isinstance" = none
  n_len : mg "len" = none
  n_tuple : mg "tuple" = none
  a_lowest : Addr
  d_lowest : FuncData
  F_lowest : FunD K "lowest" "lowest" (defArgs (top 1)) (defBody (top 1)) (defScope (top 1)) [] [] a_lowest d_lowest
  b_lowest : Binds K d_lowest ["number", "divisor"] []
  g_lowest : mg "lowest" = some (.ref a_lowest)
  a_law_cell_at : Addr
  d_law_cell_at : FuncData
  F_law_cell_at : FunD K "_law_cell_at" "_law_cell_at" (defArgs (top 3)) (defBody (top 3)) (defScope (top 3)) [] [] a_law_cell_at d_law_cell_at
  b_law_cell_at : Binds K d_law_cell_at ["_law_script", "_law_k"] []
  g_law_cell_at : mg "_law_cell_at" = some (.ref a_law_cell_at)
  a_law_whole : Addr
  d_law_whole : FuncData
  F_law_whole : FunD K "_law_whole" "_law_whole" (defArgs (top 4)) (defBody (top 4)) (defScope (top 4)) [] [] a_law_whole d_law_whole
  b_law_whole : Binds K d_law_whole ["_law_found"] []
  g_law_whole : mg "_law_whole" = some (.ref a_law_whole)
  a_law_number_by : Addr
  d_law_number_by : FuncData
  F_law_number_by : FunD K "_law_number_by" "_law_number_by" (defArgs (top 5)) (defBody (top 5)) (defScope (top 5)) [] [] a_law_number_by d_law_number_by
  b_law_number_by : Binds K d_law_number_by ["_law_cell", "_law_way"] []
  g_law_number_by : mg "_law_number_by" = some (.ref a_law_number_by)
  a_law_common : Addr
  d_law_common : FuncData
  F_law_common : FunD K "_law_common" "_law_common" (defArgs (top 6)) (defBody (top 6)) (defScope (top 6)) [] [] a_law_common d_law_common
  b_law_common : Binds K d_law_common ["_law_one", "_law_other"] []
  g_law_common : mg "_law_common" = some (.ref a_law_common)
  a_law : Addr
  d_law : FuncData
  F_law : FunD K "law" "law" (defArgs (top 7)) (defBody (top 7)) (defScope (top 7)) [] [] a_law d_law
  b_law : Binds K d_law ["_law_script"] []
  g_law : mg "law" = some (.ref a_law)

section
variable {P : Program} {w : World} {K : PySem.W.Frag} {mg : Str → Option Value} {base : Heap}
/-! ### the law's small readers -/
/-- a cell of the script -/
def cell (ns : List Int) (k : Int) : Int := if k < (ns.length : Int) then ns.getD k.toNat 0 else 0
theorem cell_nat (ns : List Int) (k : Nat) : cell ns (k : Int) = ns.getD k 0 := by
  unfold cell
  by_cases h : (k : Int) < (ns.length : Int)
  · rw [if_pos h]
    rfl
  · rw [if_neg h, List.getD_eq_getElem?_getD, List.getElem?_eq_none (by omega)]
    rfl
def sp_law_cell_at (K : PySem.W.Frag) : Sp := fun vs H Q _ => ∃ (a : Addr) (ns : List Int) (k : Int), vs = [.ref a, .int k] ∧ SqL K H a (ns.map V.int) ∧ 0 ≤ k ∧ RetV (.int (cell ns k)) H Q
abbrev s_law_cell_at : Stmt := (top 3)
abbrev N_law_cell_at : List Str := ["_law_script", "_law_k"]
theorem sc_law_cell_at : FnScope N_law_cell_at ["_law_script", "_law_k"] (defScope s_law_cell_at) := ⟨rfl, rfl, rfl, by decide +kernel, rfl, by decide +kernel, by decide +kernel⟩

theorem ok_law_cell_at (T : Txt K mg) : FnOk P w K mg base CX0 1 T.a_law_cell_at T.d_law_cell_at ["_law_script", "_law_k"] (sp_law_cell_at K) := by
  refine okN T.F_law_cell_at sc_law_cell_at (fun vs H Q E h => ?_) (fun cdv A outer s H vs Q E HR h => ?_)
  · obtain ⟨a, ns, k, rfl, _⟩ := h
    rfl
  · obtain ⟨a, ns, k, rfl, hS, h0, q⟩ := h
    refine ⟨_, (pss_cons (ps_if (pt_cmpR op_lt (pv 1) (pe_callB call_len_seq (by rfl) T.n_len boot_len (pa_cons (pv 0) pa_nil)) (nomark _))
  (pss_one (ps_ret (pe_ix ix_list (pv 0) (pv 1) (fun _ _ => rfl)))) pss_nil)
  (pss_one (ps_ret pe_int))), ?_⟩
    refine q_when (et_test (ev_op (ev_var rfl) (ev_len (ev_var rfl) hS) rv_I0)) (fun hb H1 e1 => ?_) (fun hb H1 e1 => ?_)
    · have hk : k < (ns.length : Int) := by simpa using of_decide_eq_true hb
      refine s_ret (v := .int (cell ns k)) (ev_op (ev_var rfl) (ev_var rfl) (rv_ixL (ex_l e1 hS) ?_)) fun H2 e2 => q H2 (e1.trans e2)
      have hj : k.toNat < ns.length := by omega
      refine at_of (j := k.toNat) (by omega) ?_
      unfold cell
      rw [if_pos hk, List.getElem?_map, List.getElem?_eq_getElem hj, List.getD_eq_getElem?_getD, List.getElem?_eq_getElem hj]
      rfl
    · have hk : ¬ k < (ns.length : Int) := by simpa using of_decide_eq_false hb
      refine s_ret (v := .int (cell ns k)) ?_ fun H2 e2 => q H2 (e1.trans e2)
      unfold cell
      rw [if_neg hk]
      exact ev_c
def sp_law_whole : Sp := fun vs H Q _ => ∃ i : Int, vs = [.int i] ∧ RetV (.bl true) H Q
abbrev s_law_whole : Stmt := (top 4)
abbrev N_law_whole : List Str := ["_law_found"]
theorem sc_law_whole : FnScope N_law_whole ["_law_found"] (defScope s_law_whole) := ⟨rfl, rfl, rfl, by decide +kernel, rfl, by decide +kernel, by decide +kernel⟩

theorem ok_law_whole (T : Txt K mg) : FnOk P w K mg base CX0 1 T.a_law_whole T.d_law_whole ["_law_found"] sp_law_whole := by
  refine okN T.F_law_whole sc_law_whole (fun vs H Q E h => ?_) (fun cdv A outer s H vs Q E HR h => ?_)
  · obtain ⟨i, rfl, _⟩ := h
    rfl
  · obtain ⟨i, rfl, q⟩ := h
    refine ⟨_, (pss_one (ps_ret (pe_and (pe_callB call_isi (by rfl) T.n_isinstance (by decide +kernel) (pa_cons (pv 0) (pa_cons (pe_bltn (v := .ty "int") (by rfl) T.n_int (by decide +kernel) rfl) pa_nil))) (pe_one (pe_not (pe_callB call_isi (by rfl) T.n_isinstance (by decide +kernel) (pa_cons (pv 0) (pa_cons (pe_bltn (v := .ty "bool") (by rfl) T.n_bool (by decide +kernel) rfl) pa_nil)))))))), ?_⟩
    exact s_ret (v := .bl true) (ev_andV (a := true) (b := true) (isi_int (ev_var rfl)) fun _ => ev_notV (a := false) (isi_int (ev_var rfl))) q
/-! ### lowest -/
def sp_lowest : Sp := fun vs H Q _ => ∃ a b : Nat, vs = [.int a, .int b] ∧ 0 < b ∧ b < 2 ^ 600 ∧ RetU [.int ((a / Nat.gcd a b : Nat) : Int), .int ((b / Nat.gcd a b : Nat) : Int)] H Q
abbrev s_lowest : Stmt := (top 1)
abbrev N_lowest : List Str := ["number", "divisor", "one", "other", "rest"]
theorem sc_lowest : FnScope N_lowest ["number", "divisor"] (defScope s_lowest) := ⟨rfl, rfl, rfl, by decide +kernel, rfl, by decide +kernel, by decide +kernel⟩

theorem ok_lowest (T : Txt K mg) : FnOk P w K mg base CX0 1 T.a_lowest T.d_lowest ["number", "divisor"] sp_lowest := by
  refine okN T.F_lowest sc_lowest (fun vs H Q E h => ?_) (fun cdv A outer s H vs Q E HR h => ?_)
  · obtain ⟨a, b, rfl, _⟩ := h
    rfl
  · obtain ⟨a, b, rfl, hb, hB, q⟩ := h
    refine ⟨_, (pss_cons (ps_set (i := 2) sc_lowest.nd rfl (by first | exact Or.inl rfl | exact Or.inr rfl) (pv 0))
  (pss_cons (ps_set (i := 3) sc_lowest.nd rfl (by first | exact Or.inl rfl | exact Or.inr rfl) (pv 1))
  (pss_cons (ps_while PassesOwn.never (pt_cmpR op_gt (pv 3) pe_int (nomark _))
  (pss_cons (ps_set (i := 4) sc_lowest.nd rfl (by first | exact Or.inl rfl | exact Or.inr rfl) (pe_op op_mod (pv 2) (pv 3)))
  (pss_cons (ps_set (i := 2) sc_lowest.nd rfl (by first | exact Or.inl rfl | exact Or.inr rfl) (pv 3))
  (pss_one (ps_set (i := 3) sc_lowest.nd rfl (by first | exact Or.inl rfl | exact Or.inr rfl) (pv 4))))))
  (pss_one (ps_ret (pe_tup (pa_cons (pe_op op_fdivW (pv 0) (pv 2)) (pa_cons (pe_op op_fdivW (pv 1) (pv 2)) pa_nil)))))))), ?_⟩
    refine q_asg (ev_var rfl) fun H1 e1 => ?_
    refine q_asg (ev_var rfl) fun H2 e2 => ?_
    refine q_while (fun m σ H' => ∃ (x y : Nat) (r : Option V), σ = [some (.int a), some (.int b), some (.int x), some (.int y), r] ∧ Nat.gcd x y = Nat.gcd a b ∧ m = y ∧ Ex H H') b ⟨a, b, none, rfl, rfl, rfl, e1.trans e2⟩ ?_
    rintro m σ H' ⟨x, y, r, rfl, hg, rfl, e⟩
    refine ⟨decide ((0 : Int) < (m : Int)), et_test (ev_op (ev_var rfl) ev_c rv_I0), fun hb2 H3 e3 => ?_, fun hb2 H3 e3 => ?_⟩
    · have hm : 0 < m := by simpa using of_decide_eq_true hb2
      refine ⟨fun σ H' => ∃ (r : Option V), σ = [some (.int a), some (.int b), some (.int m), some (.int ((x % m : Nat) : Int)), r] ∧ Ex H H', ?_, ?_⟩
      · rintro σ2 H4 ⟨r, rfl, e4⟩
        exact ⟨x % m, Nat.mod_lt _ hm, m, x % m, r, rfl, by rw [← hg, Nat.gcd_comm x m, Nat.gcd_rec m x, Nat.gcd_comm], rfl, e4⟩
      · refine q_asg (ev_op (ev_var rfl) (ev_var rfl) (rv_I (by show (0 : Int) < (m : Int); omega))) fun H4 e4 => ?_
        refine q_asg (ev_var rfl) fun H5 e5 => ?_
        refine s_asg (ev_var rfl) fun H6 e6 => ?_
        exact ⟨_, rfl, ((((e.trans e3).trans e4).trans e5).trans e6)⟩
    · have hm : m = 0 := by
        have := of_decide_eq_false hb2
        omega
      subst hm
      have hx : x = Nat.gcd a b := by rw [← hg, Nat.gcd_zero_right]
      have hg0 : 0 < Nat.gcd a b := Nat.gcd_pos_of_pos_right _ hb
      have hgB : Nat.gcd a b < 2 ^ 600 := Nat.lt_of_le_of_lt (Nat.le_of_dvd hb (Nat.gcd_dvd_right a b)) hB
      subst hx
      have hc : CDivW (a : Int) ((Nat.gcd a b : Nat) : Int) := wide_div (by omega) (by simpa using hgB) (by decide) (by decide)
      have hc2 : CDivW (b : Int) ((Nat.gcd a b : Nat) : Int) := wide_div (by omega) (by simpa using hgB) (by decide) (by decide)
      refine s_retU (xs := [.int ((a / Nat.gcd a b : Nat) : Int), .int ((b / Nat.gcd a b : Nat) : Int)]) (eu_tup (ea_cons (ev_is (ev_op (ev_var rfl) (ev_var rfl) (rv_I hc)) (by simp)) (ea_cons (ev_is (ev_op (ev_var rfl) (ev_var rfl) (rv_I hc2)) (by simp)) ea_nil)) (by simp)) ?_
      exact fun p H4 hp e4 h4 => q.go (e.trans e3) hp e4 h4
/-! ### the law's number by a cell, its own common divisor -/
def most3 (z : Int) : Int := if z % 3 = 0 then 13 else if z % 3 = 1 then 1000 else 10 ^ 40
theorem most3_pos (z : Int) : 0 < most3 z ∧ most3 z ≤ 10 ^ 40 := by
  unfold most3
  split
  · decide
  · split <;> decide
def sp_law_number_by : Sp := fun vs H Q _ => ∃ c y : Int, vs = [.int c, .int y] ∧ RetV (.int (c % most3 y)) H Q
abbrev s_law_number_by : Stmt := (top 5)
abbrev N_law_number_by : List Str := ["_law_cell", "_law_way"]
theorem sc_law_number_by : FnScope N_law_number_by ["_law_cell", "_law_way"] (defScope s_law_number_by) := ⟨rfl, rfl, rfl, by decide +kernel, rfl, by decide +kernel, by decide +kernel⟩

theorem ok_law_number_by (T : Txt K mg) : FnOk P w K mg base CX0 1 T.a_law_number_by T.d_law_number_by ["_law_cell", "_law_way"] sp_law_number_by := by
  refine okN T.F_law_number_by sc_law_number_by (fun vs H Q E h => ?_) (fun cdv A outer s H vs Q E HR h => ?_)
  · obtain ⟨c, y, rfl, _⟩ := h
    rfl
  · obtain ⟨c, y, rfl, q⟩ := h
    refine ⟨_, (pss_one (ps_ret (pe_op op_mod (pv 0) (pe_ix ix_list (pe_lst (pa_cons pe_int (pa_cons pe_int (pa_cons (pe_op op_pow pe_int pe_int) pa_nil)))) (pe_op op_mod (pv 1) pe_int) (fun _ _ => rfl))))), ?_⟩
    have hat : atI [V.int 13, V.int 1000, V.int (10 ^ 40)] (y % 3) = some (.int (most3 y)) := by
      unfold most3
      have h0 : 0 ≤ y % 3 := Int.emod_nonneg _ (by decide)
      have h3 : y % 3 < 3 := Int.emod_lt_of_pos _ (by decide)
      by_cases e0 : y % 3 = 0
      · rw [if_pos e0, e0]
        rfl
      · by_cases e1 : y % 3 = 1
        · rw [if_neg e0, if_pos e1, e1]
          rfl
        · have e2 : y % 3 = 2 := by omega
          rw [if_neg e0, if_neg e1, e2]
          rfl
    refine s_ret (v := .int (c % most3 y)) (ev_op (ev_var rfl) (ev_opL1 (el_lst (ea_cons ev_c (ea_cons ev_c (ea_cons (ev_op ev_c ev_c (rv_I ?_)) ea_nil))) (by simp)) (fun H1 e1 => ev_op (ev_var rfl) ev_c (rv_I (by show (0 : Int) < 3; decide))) fun p H1 h1 e1 => rv_ixL (sq_of h1) hat) (rv_I (most3_pos y).1)) q
    exact ⟨by decide, by decide, by decide⟩
def sp_law_common : Sp := fun vs H Q _ => ∃ a b : Nat, vs = [.int a, .int b] ∧ RetV (.int ((Nat.gcd a b : Nat) : Int)) H Q
abbrev s_law_common : Stmt := (top 6)
abbrev N_law_common : List Str := ["_law_one", "_law_other", "_law_rest"]
theorem sc_law_common : FnScope N_law_common ["_law_one", "_law_other"] (defScope s_law_common) := ⟨rfl, rfl, rfl, by decide +kernel, rfl, by decide +kernel, by decide +kernel⟩

theorem ok_law_common (T : Txt K mg) : FnOk P w K mg base CX0 1 T.a_law_common T.d_law_common ["_law_one", "_law_other"] sp_law_common := by
  refine okN T.F_law_common sc_law_common (fun vs H Q E h => ?_) (fun cdv A outer s H vs Q E HR h => ?_)
  · obtain ⟨a, b, rfl, _⟩ := h
    rfl
  · obtain ⟨a, b, rfl, q⟩ := h
    refine ⟨_, (pss_cons (ps_while PassesOwn.never (pt_cmpR op_gt (pv 1) pe_int (nomark _))
  (pss_cons (ps_set (i := 2) sc_law_common.nd rfl (by first | exact Or.inl rfl | exact Or.inr rfl) (pe_op op_mod (pv 0) (pv 1)))
  (pss_cons (ps_set (i := 0) sc_law_common.nd rfl (by first | exact Or.inl rfl | exact Or.inr rfl) (pv 1))
  (pss_one (ps_set (i := 1) sc_law_common.nd rfl (by first | exact Or.inl rfl | exact Or.inr rfl) (pv 2))))))
  (pss_one (ps_ret (pv 0)))), ?_⟩
    refine q_while (fun m σ H' => ∃ (x y : Nat) (r : Option V), σ = [some (.int x), some (.int y), r] ∧ Nat.gcd x y = Nat.gcd a b ∧ m = y ∧ Ex H H') b ⟨a, b, none, rfl, rfl, rfl, Ex.refl H⟩ ?_
    rintro m σ H' ⟨x, y, r, rfl, hg, rfl, e⟩
    refine ⟨decide ((0 : Int) < (m : Int)), et_test (ev_op (ev_var rfl) ev_c rv_I0), fun hb2 H3 e3 => ?_, fun hb2 H3 e3 => ?_⟩
    · have hm : 0 < m := by simpa using of_decide_eq_true hb2
      refine ⟨fun σ H' => ∃ (r : Option V), σ = [some (.int m), some (.int ((x % m : Nat) : Int)), r] ∧ Ex H H', ?_, ?_⟩
      · rintro σ2 H4 ⟨r, rfl, e4⟩
        exact ⟨x % m, Nat.mod_lt _ hm, m, x % m, r, rfl, by rw [← hg, Nat.gcd_comm x m, Nat.gcd_rec m x, Nat.gcd_comm], rfl, e4⟩
      · refine q_asg (ev_op (ev_var rfl) (ev_var rfl) (rv_I (by show (0 : Int) < (m : Int); omega))) fun H4 e4 => ?_
        refine q_asg (ev_var rfl) fun H5 e5 => ?_
        refine s_asg (ev_var rfl) fun H6 e6 => ?_
        exact ⟨_, rfl, ((((e.trans e3).trans e4).trans e5).trans e6)⟩
    · have hm : m = 0 := by
        have := of_decide_eq_false hb2
        omega
      subst hm
      rw [Nat.gcd_zero_right] at hg
      subst hg
      exact s_ret (ev_var rfl) fun H4 e4 => q H4 ((e.trans e3).trans e4)
/-! ### the law -/
theorem number_nat (c y : Int) : ∃ n : Nat, c % most3 y = (n : Int) ∧ n < 2 ^ 140 := by
  have h1 := (most3_pos y).1
  have h2 := (most3_pos y).2
  have h3 := Int.emod_nonneg c (by omega : most3 y ≠ 0)
  have h4 := Int.emod_lt_of_pos c h1
  have h5 : (10 : Int) ^ 40 < 2 ^ 140 := by decide
  refine ⟨(c % most3 y).toNat, by omega, ?_⟩
  have h6 : ((c % most3 y).toNat : Int) < ((2 ^ 140 : Nat) : Int) := by
    have : ((2 ^ 140 : Nat) : Int) = 2 ^ 140 := by decide
    omega
  exact_mod_cast h6
def sp_law (K : PySem.W.Frag) : Sp := fun vs H Q _ => ∃ (a : Addr) (ns : List Int), vs = [.ref a] ∧ SqL K H a (ns.map V.int) ∧ ∀ H', Q (.bl true) H'
abbrev s_law : Stmt := (top 7)
abbrev N_law : List Str := ["_law_script", "_law_number", "_law_divisor", "_law_more", "_law_found"]
theorem sc_law : FnScope N_law ["_law_script"] (defScope s_law) := ⟨rfl, rfl, rfl, by decide +kernel, rfl, by decide +kernel, by decide +kernel⟩

theorem ok_law (T : Txt K mg) : FnOk P w K mg base CX0 2 T.a_law T.d_law ["_law_script"] (sp_law K) := by
  refine okN T.F_law sc_law (fun vs H Q E h => ?_) (fun cdv A outer s H vs Q E HR h => ?_)
  · obtain ⟨a, ns, rfl, _⟩ := h
    rfl
  · obtain ⟨a, ns, rfl, hS, q⟩ := h
    refine ⟨_, (pss_cons (ps_set (i := 1) sc_law.nd rfl (by first | exact Or.inl rfl | exact Or.inr rfl) (pe_call (ok_law_number_by T) (HR.mono (by decide)) (by rfl) T.g_law_number_by T.F_law_number_by.kp T.b_law_number_by .nil pass0 (pa_cons (pe_call (ok_law_cell_at T) (HR.mono (by decide)) (by rfl) T.g_law_cell_at T.F_law_cell_at.kp T.b_law_cell_at .nil pass0 (pa_cons (pv 0) (pa_cons pe_int pa_nil))) (pa_cons (pe_call (ok_law_cell_at T) (HR.mono (by decide)) (by rfl) T.g_law_cell_at T.F_law_cell_at.kp T.b_law_cell_at .nil pass0 (pa_cons (pv 0) (pa_cons pe_int pa_nil))) pa_nil))))
  (pss_cons (ps_set (i := 2) sc_law.nd rfl (by first | exact Or.inl rfl | exact Or.inr rfl) (pe_op op_add pe_int (pe_call (ok_law_number_by T) (HR.mono (by decide)) (by rfl) T.g_law_number_by T.F_law_number_by.kp T.b_law_number_by .nil pass0 (pa_cons (pe_call (ok_law_cell_at T) (HR.mono (by decide)) (by rfl) T.g_law_cell_at T.F_law_cell_at.kp T.b_law_cell_at .nil pass0 (pa_cons (pv 0) (pa_cons pe_int pa_nil))) (pa_cons (pe_op op_fdiv (pe_call (ok_law_cell_at T) (HR.mono (by decide)) (by rfl) T.g_law_cell_at T.F_law_cell_at.kp T.b_law_cell_at .nil pass0 (pa_cons (pv 0) (pa_cons pe_int pa_nil))) pe_int) pa_nil)))))
  (Evl.pss_cut (ps_if (pt_cmpR op_eq (pe_op op_mod (pe_op op_fdiv (pe_call (ok_law_cell_at T) (HR.mono (by decide)) (by rfl) T.g_law_cell_at T.F_law_cell_at.kp T.b_law_cell_at .nil pass0 (pa_cons (pv 0) (pa_cons pe_int pa_nil))) pe_int) pe_int) pe_int (nomark _))
  (pss_cons (ps_set (i := 3) sc_law.nd rfl (by first | exact Or.inl rfl | exact Or.inr rfl) (pe_op op_add pe_int (pe_call (ok_law_number_by T) (HR.mono (by decide)) (by rfl) T.g_law_number_by T.F_law_number_by.kp T.b_law_number_by .nil pass0 (pa_cons (pe_call (ok_law_cell_at T) (HR.mono (by decide)) (by rfl) T.g_law_cell_at T.F_law_cell_at.kp T.b_law_cell_at .nil pass0 (pa_cons (pv 0) (pa_cons pe_int pa_nil))) (pa_cons (pe_op op_fdiv (pe_call (ok_law_cell_at T) (HR.mono (by decide)) (by rfl) T.g_law_cell_at T.F_law_cell_at.kp T.b_law_cell_at .nil pass0 (pa_cons (pv 0) (pa_cons pe_int pa_nil))) pe_int) pa_nil)))))
  (pss_cons (ps_set (i := 1) sc_law.nd rfl (by first | exact Or.inl rfl | exact Or.inr rfl) (pe_op op_mulG (pv 1) (pv 3)))
  (pss_one (ps_set (i := 2) sc_law.nd rfl (by first | exact Or.inl rfl | exact Or.inr rfl) (pe_op op_mulG (pv 2) (pv 3)))))) pss_nil)
  (pss_cons (ps_set (i := 4) sc_law.nd rfl (by first | exact Or.inl rfl | exact Or.inr rfl) (pe_call (ok_lowest T) (HR.mono (by decide)) (by rfl) T.g_lowest T.F_lowest.kp T.b_lowest .nil pass0 (pa_cons (pv 1) (pa_cons (pv 2) pa_nil))))
  (pss_cons (ps_if (PW.pt (pw_or (pt_not (pt_val (pe_callB call_isi (by rfl) T.n_isinstance (by decide +kernel) (pa_cons (pv 4) (pa_cons (pe_bltn (v := .ty "tuple") (by rfl) T.n_tuple (by decide +kernel) rfl) pa_nil))))) (pw_or (pt_cmpR op_ne (pe_callB call_len_seq (by rfl) T.n_len boot_len (pa_cons (pv 4) pa_nil)) pe_int (nomark _)) (pw_or (pt_not (pt_val (pe_call (ok_law_whole T) (HR.mono (by decide)) (by rfl) T.g_law_whole T.F_law_whole.kp T.b_law_whole .nil pass0 (pa_cons (pe_ix ix_tup (pv 4) pe_int (fun _ _ => rfl)) pa_nil)))) (pw_or1 (pt_not (pt_val (pe_call (ok_law_whole T) (HR.mono (by decide)) (by rfl) T.g_law_whole T.F_law_whole.kp T.b_law_whole .nil pass0 (pa_cons (pe_ix ix_tup (pv 4) pe_int (fun _ _ => rfl)) pa_nil)))))))))
  (pss_one (ps_ret pe_bl)) pss_nil)
  (pss_cons (ps_if (PW.pt (pw_or (pt_cmpR op_lt (pe_ix ix_tup (pv 4) pe_int (fun _ _ => rfl)) pe_int (nomark _)) (pw_or1 (pt_cmpR op_ne (pe_op op_mulG (pe_ix ix_tup (pv 4) pe_int (fun _ _ => rfl)) (pv 2)) (pe_op op_mulG (pv 1) (pe_ix ix_tup (pv 4) pe_int (fun _ _ => rfl))) (nomark _)))))
  (pss_one (ps_ret pe_bl)) pss_nil)
  (pss_one (ps_ret (pe_cmpR op_eq (pe_call (ok_law_common T) (HR.mono (by decide)) (by rfl) T.g_law_common T.F_law_common.kp T.b_law_common .nil pass0 (pa_cons (pe_ix ix_tup (pv 4) pe_int (fun _ _ => rfl)) (pa_cons (pe_ix ix_tup (pv 4) pe_int (fun _ _ => rfl)) pa_nil))) pe_int (nomark _)))))))))), ?_⟩
    have ccell : ∀ (k : Int) (σ : L2.St) (H1 : Hp) (E : XK) (hσ : σ[0]? = some (some (.ref a))) (e : Ex H H1) (h0 : 0 ≤ k), Ev (tCall (sp_law_cell_at K) [] E (tCons (tVar 0) (tCons (tC (.int k)) tNil))) σ H1 (.int (cell ns k)) := fun k σ H1 E hσ e h0 =>
      ev_callV (ea_cons (ev_var hσ) (ea_cons ev_c ea_nil)) fun H2 e2 Q E q => ⟨a, ns, k, rfl, ex_l (e.trans e2) hS, h0, q⟩
    have cnum : ∀ (σ : L2.St) (H1 : Hp) (E : XK) (t1 t2 : TE) (c y : Int), Ev t1 σ H1 (.int c) → Ev t2 σ H1 (.int y) → Ev (tCall sp_law_number_by [] E (tCons t1 (tCons t2 tNil))) σ H1 (.int (c % most3 y)) := fun σ H1 E t1 t2 c y h1 h2 =>
      ev_callV (ea_cons h1 (ea_cons h2 ea_nil)) fun H2 e2 Q E q => ⟨c, y, rfl, q⟩
    have d3 : CDiv (cell ns 3) 3 := ⟨by decide, by decide⟩
    have d9 : CDiv (cell ns 3) 9 := ⟨by decide, by decide⟩
    have d18 : CDiv (cell ns 3) 18 := ⟨by decide, by decide⟩
    obtain ⟨n1, hn1, hn1b⟩ := number_nat (cell ns 0) (cell ns 3)
    obtain ⟨m1, hm1, hm1b⟩ := number_nat (cell ns 1) (cell ns 3 / 3)
    obtain ⟨z1, hz1, hz1b⟩ := number_nat (cell ns 2) (cell ns 3 / 18)
    refine q_asg (cnum _ _ _ _ _ _ _ (ccell 0 _ _ _ rfl (Ex.refl H) (by decide)) (ccell 3 _ _ _ rfl (Ex.refl H) (by decide))) fun H1 e1 => ?_
    refine q_asg (ev_op ev_c (cnum _ _ _ _ _ _ _ (ccell 1 _ _ _ rfl e1 (by decide)) (ev_op (ccell 3 _ _ _ rfl e1 (by decide)) ev_c (rv_I d3))) rv_I0) fun H2 e2 => ?_
    have e02 := e1.trans e2
    rw [hn1, hm1]
    refine q_cut (M := fun σ H' => ∃ (n d : Nat) (r : Option V), σ = [some (.ref a), some (.int n), some (.int d), r, none] ∧ 0 < d ∧ n < 2 ^ 300 ∧ d < 2 ^ 300 ∧ Ex H H') ?_ ?_
    · refine s_when (et_test (ev_op (ev_op (ev_op (ccell 3 _ _ _ rfl e02 (by decide)) ev_c (rv_I d9)) ev_c (rv_I (by show (0 : Int) < 2; decide))) ev_c (rv_eq rfl))) (fun hb H3 e3 => ?_) (fun hb H3 e3 => ?_)
      · have e03 := e02.trans e3
        refine q_asg (ev_op ev_c (cnum _ _ _ _ _ _ _ (ccell 2 _ _ _ rfl e03 (by decide)) (ev_op (ccell 3 _ _ _ rfl e03 (by decide)) ev_c (rv_I d18))) rv_I0) fun H4 e4 => ?_
        rw [hz1]
        have b1 : ((1 : Int) + (m1 : Int)).natAbs < 2 ^ 141 := by
          have : (2 : Nat) ^ 141 = 2 ^ 140 + 2 ^ 140 := by decide
          omega
        have b2 : ((1 : Int) + (z1 : Int)).natAbs < 2 ^ 141 := by
          have : (2 : Nat) ^ 141 = 2 ^ 140 + 2 ^ 140 := by decide
          omega
        have b0 : ((n1 : Int)).natAbs < 2 ^ 141 := by
          have : (2 : Nat) ^ 141 = 2 ^ 140 + 2 ^ 140 := by decide
          omega
        refine q_asg (ev_op (ev_var rfl) (ev_var rfl) (rv_I (mulok 141 141 b0 b2))) fun H5 e5 => ?_
        refine s_asg (ev_op (ev_var rfl) (ev_var rfl) (rv_I (mulok 141 141 b1 b2))) fun H6 e6 => ?_
        have w1 := wide_lt b0 b2
        have w2 := wide_lt b1 b2
        have w3 : (2 : Nat) ^ (141 + 141) < 2 ^ 300 := by decide
        have x1 : ((n1 * (1 + z1) : Nat) : Int) = (n1 : Int) * (1 + (z1 : Int)) := by simp [Int.natCast_mul, Int.natCast_add]
        have x2 : (((1 + m1) * (1 + z1) : Nat) : Int) = (1 + (m1 : Int)) * (1 + (z1 : Int)) := by simp [Int.natCast_mul, Int.natCast_add]
        refine ⟨n1 * (1 + z1), (1 + m1) * (1 + z1), some (.int (1 + (z1 : Int))), ?_, Nat.mul_pos (by omega) (by omega), by omega, by omega, ((e03.trans e4).trans e5).trans e6⟩
        rw [x1, x2]
        rfl
      · refine ⟨n1, 1 + m1, none, ?_, by omega, ?_, ?_, e02.trans e3⟩
        · rw [Int.natCast_add]
          rfl
        · have : (2 : Nat) ^ 140 < 2 ^ 300 := by decide
          omega
        · have : (2 : Nat) ^ 140 + 1 < 2 ^ 300 := by decide
          omega
    · rintro σ H3 ⟨n, d, r, rfl, hd, hn, hdB, e03⟩
      have hg0 : 0 < Nat.gcd n d := Nat.gcd_pos_of_pos_right _ hd
      refine q_asgU (eu_callU (ea_cons (ev_var rfl) (ea_cons (ev_var rfl) ea_nil)) fun H4 e4 Q E q => ⟨n, d, rfl, hd, Nat.lt_trans hdB (by decide), q⟩) fun p H4 hp e4 h4 => ?_
      have i0 : ∀ (H5 : Hp) (σ : L2.St) (hσ : σ[4]? = some (some (.ref p))), Ex H4 H5 → Ev (tOp (rIxT K) (tVar 4) (tC (.int 0))) σ H5 (.int ((n / Nat.gcd n d : Nat) : Int)) := fun H5 σ hσ e5 => ev_op (ev_var hσ) ev_c (rv_ixT (st_of (e5 _ _ h4)) rfl)
      have i1 : ∀ (H5 : Hp) (σ : L2.St) (hσ : σ[4]? = some (some (.ref p))), Ex H4 H5 → Ev (tOp (rIxT K) (tVar 4) (tC (.int 1))) σ H5 (.int ((d / Nat.gcd n d : Nat) : Int)) := fun H5 σ hσ e5 => ev_op (ev_var hσ) ev_c (rv_ixT (st_of (e5 _ _ h4)) rfl)
      have cw : ∀ (σ : L2.St) (H5 : Hp) (E : XK) (t : TE) (i : Int), Ev t σ H5 (.int i) → Ev (tCall sp_law_whole [] E (tCons t tNil)) σ H5 (.bl true) := fun σ H5 E t i h => ev_callV (ea_cons h ea_nil) fun H6 e6 Q E q => ⟨i, rfl, q⟩
      have hnd : n / Nat.gcd n d ≤ n := Nat.div_le_self _ _
      have hdd : d / Nat.gcd n d ≤ d := Nat.div_le_self _ _
      have hd1 : 0 < d / Nat.gcd n d := Nat.div_pos (Nat.le_of_dvd hd (Nat.gcd_dvd_right n d)) hg0
      refine q_when (b := false) (et_or (a := false) (et_not (a := true) (et_B (isi_tup (ev_var rfl) h4))) fun _ => et_or (a := false) (et_is (et_test (ev_op (ev_lenS (ev_var rfl) (Or.inr (st_of h4))) ev_c (rv_ne rfl))) (by simp)) fun _ =>
        et_or (a := false) (et_not (a := true) (et_B (cw _ _ _ _ _ (i0 _ _ rfl (Ex.refl H4))))) fun _ => et_not (a := true) (et_B (cw _ _ _ _ _ (i1 _ _ rfl (Ex.refl H4))))) (fun z => by cases z) fun _ H5 e5 => ?_
      have cross : n / Nat.gcd n d * d = n * (d / Nat.gcd n d) := by
        obtain ⟨x, hx⟩ := Nat.gcd_dvd_left n d
        obtain ⟨y, hy⟩ := Nat.gcd_dvd_right n d
        have ex : n / Nat.gcd n d = x := Nat.div_eq_of_eq_mul_right hg0 hx
        have ey : d / Nat.gcd n d = y := Nat.div_eq_of_eq_mul_right hg0 hy
        rw [ex, ey]
        calc x * d = x * (Nat.gcd n d * y) := by rw [← hy]
          _ = Nat.gcd n d * x * y := by rw [Nat.mul_comm (Nat.gcd n d) x, Nat.mul_assoc]
          _ = n * y := by rw [← hx]
      refine q_when (b := false) (et_or (a := false) (et_is (et_test (ev_op (i1 _ _ rfl e5) ev_c rv_I0)) (decide_eq_false (by omega))) fun _ => et_is (et_test (ev_op (ev_op (i0 _ _ rfl e5) (ev_var rfl) (rv_I (mulok 300 300 (by rw [Int.natAbs_natCast]; omega) (by rw [Int.natAbs_natCast]; omega)))) (ev_op (ev_var rfl) (i1 _ _ rfl e5) (rv_I (mulok 300 300 (by rw [Int.natAbs_natCast]; omega) (by rw [Int.natAbs_natCast]; omega)))) (rv_ne rfl))) ?_) (fun z => by cases z) fun _ H6 e6 => ?_
      · have : ((n / Nat.gcd n d : Nat) : Int) * (d : Int) = (n : Int) * ((d / Nat.gcd n d : Nat) : Int) := by
          rw [← Int.natCast_mul, ← Int.natCast_mul, cross]
        rw [this]
        simp
      have e46 := e5.trans e6
      refine s_ret (v := .bl true) (ev_is (ev_op (ev_callV (ea_cons (i0 _ _ rfl e46) (ea_cons (i1 _ _ rfl e46) ea_nil)) fun H7 e7 Q E q => ⟨n / Nat.gcd n d, d / Nat.gcd n d, rfl, q⟩) ev_c (rv_eq rfl)) ?_) fun H7 _ => q H7
      have : Nat.gcd (n / Nat.gcd n d) (d / Nat.gcd n d) = 1 := Nat.coprime_div_gcd_div_gcd hg0
      rw [this]
      rfl
end
/-! ### what the top has written: the head -/
set_option maxHeartbeats 0
def fn : List He.DefD := [⟨("lowest", none), "lowest", "lowest", defArgs (top 1), defBody (top 1), defScope (top 1), [], []⟩, ⟨("_law_cell_at", none), "_law_cell_at", "_law_cell_at", defArgs (top 3), defBody (top 3), defScope (top 3), [], []⟩, ⟨("_law_whole", none), "_law_whole", "_law_whole", defArgs (top 4), defBody (top 4), defScope (top 4), [], []⟩, ⟨("_law_number_by", none), "_law_number_by", "_law_number_by", defArgs (top 5), defBody (top 5), defScope (top 5), [], []⟩, ⟨("_law_common", none), "_law_common", "_law_common", defArgs (top 6), defBody (top 6), defScope (top 6), [], []⟩, ⟨("law", none), "law", "law", defArgs (top 7), defBody (top 7), defScope (top 7), [], []⟩]
def fa : List He.Fa := [.glo "lowest", .glo "_law_cell_at", .glo "_law_whole", .glo "_law_number_by", .glo "_law_common", .glo "law", .free "bool", .free "int", .free "isinstance", .free "len", .free "tuple"]
def names : List PySem.Str := ["__name__", "lowest", "_law_cell_at", "_law_whole", "_law_number_by", "_law_common"]
abbrev R : PySem.W.OpenRow := PySem.W.OpenLaw.row PySem.Challenge.rw_meanpace_k01_lowest_terms
def tf : List He.Defn := []
def ex (K : PySem.W.Frag) : Bool := true
abbrev hk : PySem.W.Hook := He.hookX 5 fa fn [] tf ex
def ob (s : PySem.W.SharedT) : He.AlX := He.obsX 5 fa fn [] tf ex (HandSHeadRun.getT s)
theorem ob_eq (s : PySem.W.SharedT) : ob s = hk.obs s.abs := He.obsX_eq (HandSHeadRun.getT_eq s)
abbrev steps : Nat := 20000
theorem run (w : World) : HandSHeadRun.RunEq R (PySem.W.view R.prog [7]) hk ob 20000 names w := by
  intro os
  kernel_rfl
theorem txt_of {w : World} {h : Heap} {K : PySem.W.Frag} {mg : Str → Option Value} (X : K.In h) (G : h.Ns mainGlobals mg) (S : He.SaysX fa fn [] tf ex w h K) : ∃ T : Txt K mg, T.a_law = He.ga K "law" := by
  have D : He.SaysD fa fn K := S.t.d
  obtain ⟨d_0, F_0⟩ := D.def_ 0 rfl
  obtain ⟨d_1, F_1⟩ := D.def_ 1 rfl
  obtain ⟨d_2, F_2⟩ := D.def_ 2 rfl
  obtain ⟨d_3, F_3⟩ := D.def_ 3 rfl
  obtain ⟨d_4, F_4⟩ := D.def_ 4 rfl
  obtain ⟨d_5, F_5⟩ := D.def_ 5 rfl
  exact ⟨{
    n_bool := He.free_ok X G (D.fact 6 rfl)
    n_int := He.free_ok X G (D.fact 7 rfl)
    n_isinstance := He.free_ok X G (D.fact 8 rfl)
    n_len := He.free_ok X G (D.fact 9 rfl)
    n_tuple := He.free_ok X G (D.fact 10 rfl)
    a_lowest := He.ga K "lowest"
    d_lowest := d_0
    F_lowest := F_0
    b_lowest := (FunD.bindsN F_0 fun _ _ _ _ _ _ us hl => match us, hl with | [_, _], _ => rfl)
    g_lowest := He.glo_ok X G (D.fact 0 rfl)
    a_law_cell_at := He.ga K "_law_cell_at"
    d_law_cell_at := d_1
    F_law_cell_at := F_1
    b_law_cell_at := (FunD.bindsN F_1 fun _ _ _ _ _ _ us hl => match us, hl with | [_, _], _ => rfl)
    g_law_cell_at := He.glo_ok X G (D.fact 1 rfl)
    a_law_whole := He.ga K "_law_whole"
    d_law_whole := d_2
    F_law_whole := F_2
    b_law_whole := (FunD.bindsN F_2 fun _ _ _ _ _ _ us hl => match us, hl with | [_], _ => rfl)
    g_law_whole := He.glo_ok X G (D.fact 2 rfl)
    a_law_number_by := He.ga K "_law_number_by"
    d_law_number_by := d_3
    F_law_number_by := F_3
    b_law_number_by := (FunD.bindsN F_3 fun _ _ _ _ _ _ us hl => match us, hl with | [_, _], _ => rfl)
    g_law_number_by := He.glo_ok X G (D.fact 3 rfl)
    a_law_common := He.ga K "_law_common"
    d_law_common := d_4
    F_law_common := F_4
    b_law_common := (FunD.bindsN F_4 fun _ _ _ _ _ _ us hl => match us, hl with | [_, _], _ => rfl)
    g_law_common := He.glo_ok X G (D.fact 4 rfl)
    a_law := He.ga K "law"
    d_law := d_5
    F_law := F_5
    b_law := (FunD.bindsN F_5 fun _ _ _ _ _ _ us hl => match us, hl with | [_], _ => rfl)
    g_law := He.glo_ok X G (D.fact 5 rfl) }, rfl⟩

theorem law_at {w : World} {h : Heap} {K : PySem.W.Frag} {mg : Str → Option Value} (T : Txt K mg) (S : He.SaysX fa fn [] tf ex w h K) :
    LamX.LawAtS PySem.Challenge.rw_meanpace_k01_lowest_terms w K L2.CX0 2 63 "_law_script" mg T.a_law h := by
  refine ⟨T.d_law, [], sp_law K, (fun p hp => by cases hp), (fun p hp => by cases hp), (fun p hp => by cases hp), ?_, fun H a ns hl hbits _ hS => ⟨a, ns, rfl, hS, fun _ => rfl⟩, fun base hK hG _ => ok_law T⟩
  have b := FunD.bindsA (ps := ["_law_script"]) T.F_law fun _ _ _ _ _ _ us hl => match us, hl with | [_], _ => rfl
  exact fun s v => b s [v] rfl
end MP
open PySem PySem.W PySem.Calls PyProof.Rows
theorem PySem.Challenge.cw_meanpace_k01_lowest_terms_holds : PySem.Challenge.rw_meanpace_k01_lowest_terms.Holds := by
  w_on; o_law
  refine HandSHeadRun.head_any (r := OpenLaw.row PySem.Challenge.rw_meanpace_k01_lowest_terms) (q := view (OpenLaw.row PySem.Challenge.rw_meanpace_k01_lowest_terms).prog [7]) (H := MP.hk) (ob := MP.ob) (M := MP.steps) (loose := MP.names) (d := HandSHeadRun.topDef (OpenLaw.row PySem.Challenge.rw_meanpace_k01_lowest_terms).prog 7) (kwd := []) MP.ob_eq
    (by kernel_rfl) (fun s => by kernel_rfl) MP.run (by kernel_rfl) (by kernel_rfl) (by kernel_rfl) (by rfl) (by first | assumption | decide +kernel) (by decide +kernel) ⟨rfl, rfl, rfl, rfl, rfl, by decide +kernel⟩ ?hw ?hc
  case hw => w_witness2
  case hc =>
    refine LamX.walk_ofTsE (l := PySem.Challenge.rw_meanpace_k01_lowest_terms) (n := 63) (k := 2) (x := "_law_script") (CX := fun _ => L2.CX0) rfl (by decide) (by kernel_rfl) ⟨rfl, by decide, by decide⟩ ?F (fun _ _ _ _ _ z => z)
    intro w mg fa h Y G hmg0
    obtain ⟨K, KX, S⟩ := Y
    have hmg : mg ("law" : PySem.Str) = some (.ref fa) := by
      have e : (HandSHeadRun.topDef (OpenLaw.row PySem.Challenge.rw_meanpace_k01_lowest_terms).prog 7).name = ("law" : PySem.Str) := by kernel_rfl
      rw [← e]
      exact hmg0
    obtain ⟨T, _⟩ := MP.txt_of KX G S
    have ea := hmg.symm.trans T.g_law
    cases ea
    exact ⟨K, KX, MP.law_at T S⟩
#print axioms PySem.Challenge.cw_meanpace_k01_lowest_terms_holds
