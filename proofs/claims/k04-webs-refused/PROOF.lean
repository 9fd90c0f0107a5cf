import PyProof.Rows.All
import Wide.All
import OpenK.AllK
import Wide.FinOn
import KE.KStateDown
import KE.SortKeyHeap
import KE.KDictDisplayH
import Lean
import HandS.ForMost
import HandS.Zip
import HandS.Rev
import HandS.SortKw
import HandS.Lambda
import HandS.EndTab
import HandS.Conv
import HandS.Sort
import HandS.Defaults
import HandS.IsInst
import HandS.Evl
import HandS.Steps
import HandS.Wide
import HandS.Exc
import HandS.Head0
import HandS.Head1
import HandS.Head2
import HandS.HeadHook1
import HandS.HeadHook2
import HandS.HeadHook3
import HandS.HeadHook4
import HandS.HeadWalk
import HandS.ExcOwn
import HandS.ExcCtx
import HandS.ExcIs
import HandS.Hot
import HandS.HotCalls
import PySem.Challenge.RW_meanpace_k04_webs_refused
set_option Elab.async false
set_option linter.all false
set_option maxRecDepth 100000

set_option maxHeartbeats 4000000
/-! ### the plain law: ways, webs of one piece -/
namespace MP
/-- from, to, delay -/
abbrev Way := Nat × Nat × Nat
def edges (ws : List Way) : List (Nat × Nat) := ws.map fun w => (w.1, w.2.1)
def redges (ws : List Way) : List (Nat × Nat) := ws.map fun w => (w.2.1, w.1)
inductive Reach (es : List (Nat × Nat)) : Nat → Nat → Prop
  | refl (a : Nat) : Reach es a a
  | step {a b c : Nat} : Reach es a b → (b, c) ∈ es → Reach es a c
theorem Reach.trans {es : List (Nat × Nat)} {a b c : Nat} (h : Reach es a b) (k : Reach es b c) : Reach es a c := by
  induction k with
  | refl => exact h
  | step _ e ih => exact .step ih e
theorem Reach.one {es : List (Nat × Nat)} {a b : Nat} (e : (a, b) ∈ es) : Reach es a b := .step (.refl a) e
theorem Reach.mono {es fs : List (Nat × Nat)} {a b : Nat} (h : Reach es a b) (k : ∀ e ∈ es, e ∈ fs) : Reach fs a b := by
  induction h with
  | refl => exact .refl _
  | step _ e ih => exact .step ih (k _ e)
theorem mem_edges {ws : List Way} {a b : Nat} : (a, b) ∈ edges ws ↔ ∃ d, (a, b, d) ∈ ws := by
  unfold edges
  rw [List.mem_map]
  constructor
  · rintro ⟨⟨x, y, d⟩, h, e⟩
    cases e
    exact ⟨d, h⟩
  · rintro ⟨d, h⟩
    exact ⟨_, h, rfl⟩
theorem mem_redges {ws : List Way} {a b : Nat} : (a, b) ∈ redges ws ↔ ∃ d, (b, a, d) ∈ ws := by
  unfold redges
  rw [List.mem_map]
  constructor
  · rintro ⟨⟨x, y, d⟩, h, e⟩
    cases e
    exact ⟨d, h⟩
  · rintro ⟨d, h⟩
    exact ⟨_, h, rfl⟩
theorem mem_re {ws : List Way} {a b : Nat} : (a, b) ∈ redges ws ↔ (b, a) ∈ edges ws := by
  rw [mem_edges, mem_redges]
theorem Reach.rev {ws : List Way} {a b : Nat} (h : Reach (redges ws) a b) : Reach (edges ws) b a := by
  induction h with
  | refl => exact .refl _
  | step _ e ih => exact (Reach.one (mem_re.mp e)).trans ih
theorem Reach.rev' {ws : List Way} {a b : Nat} (h : Reach (edges ws) a b) : Reach (redges ws) b a := by
  induction h with
  | refl => exact .refl _
  | step _ e ih => exact (Reach.one (mem_re.mpr e)).trans ih
/-- a web as the document has it -/
structure WebOk (n : Nat) (ws : List Way) : Prop where
  n1 : 1 ≤ n
  n12 : n ≤ 12
  len : ws.length ≤ 60
  ends : ∀ w ∈ ws, w.1 < n ∧ w.2.1 < n
  del : ∀ w ∈ ws, w.2.2 ≤ 9999
  ne : ws ≠ []
  fwd : ∀ m, m < n → Reach (edges ws) 0 m
  bwd : ∀ m, m < n → Reach (redges ws) 0 m
/-- what leads to m, in order: from where, with what delay -/
def inn (ws : List Way) (m : Nat) : List (Nat × Nat) := (ws.filter fun w => decide (w.2.1 = m)).map fun w => (w.1, w.2.2)
theorem mem_inn {ws : List Way} {m a d : Nat} : (a, d) ∈ inn ws m ↔ (a, m, d) ∈ ws := by
  unfold inn
  rw [List.mem_map]
  constructor
  · rintro ⟨⟨x, y, z⟩, h, e⟩
    cases e
    obtain ⟨h1, h2⟩ := List.mem_filter.mp h
    obtain rfl := of_decide_eq_true h2
    exact h1
  · intro h
    exact ⟨_, List.mem_filter.mpr ⟨h, decide_eq_true rfl⟩, rfl⟩
theorem WebOk.all {n : Nat} {ws : List Way} (h : WebOk n ws) {a b : Nat} (ha : a < n) (hb : b < n) : Reach (edges ws) a b := (h.bwd a ha).rev.trans (h.fwd b hb)
/-- some way leads to each meeting -/
theorem WebOk.inn_ne {n : Nat} {ws : List Way} (h : WebOk n ws) {m : Nat} (hm : m < n) : inn ws m ≠ [] := by
  have key : ∃ a d, (a, m, d) ∈ ws := by
    by_cases h1 : n = 1
    · obtain ⟨w, hw⟩ := List.exists_mem_of_ne_nil _ h.ne
      obtain ⟨x, y, d⟩ := w
      have := h.ends _ hw
      have e1 : y = m := by
        have := this.2
        simp only at this
        omega
      rw [e1] at hw
      exact ⟨x, d, hw⟩
    · obtain ⟨a, ha, hne⟩ : ∃ a, a < n ∧ a ≠ m := by
        by_cases h0 : m = 0
        · exact ⟨1, by have := h.n1; omega, by omega⟩
        · exact ⟨0, by have := h.n1; omega, by omega⟩
      have r := h.all ha hm
      cases r with
      | refl => exact absurd rfl hne
      | step _ e =>
        obtain ⟨d, hd⟩ := mem_edges.mp e
        exact ⟨_, d, hd⟩
  obtain ⟨a, d, hd⟩ := key
  intro z
  have := mem_inn.mpr hd
  rw [z] at this
  cases this
theorem inn_lt {n : Nat} {ws : List Way} (h : WebOk n ws) {m : Nat} {p : Nat × Nat} (hp : p ∈ inn ws m) : p.1 < n ∧ m < n ∧ p.2 ≤ 9999 := by
  obtain ⟨a, d⟩ := p
  have hw := mem_inn.mp hp
  exact ⟨(h.ends _ hw).1, (h.ends _ hw).2, h.del _ hw⟩
theorem inn_len (ws : List Way) (m : Nat) : (inn ws m).length ≤ ws.length := by
  unfold inn
  rw [List.length_map]
  exact List.length_filter_le _ _
/-! the web turned about -/
def turn (ws : List Way) : List Way := ws.map fun w => (w.2.1, w.1, w.2.2)
theorem edges_turn (ws : List Way) : edges (turn ws) = redges ws := by
  unfold edges turn redges
  rw [List.map_map]
  rfl
theorem redges_turn (ws : List Way) : redges (turn ws) = edges ws := by
  unfold edges turn redges
  rw [List.map_map]
  rfl
theorem turn_turn (ws : List Way) : turn (turn ws) = ws := by
  unfold turn
  rw [List.map_map]
  exact List.map_id' ws
theorem WebOk.turn {n : Nat} {ws : List Way} (h : WebOk n ws) : WebOk n (turn ws) := by
  refine ⟨h.n1, h.n12, by unfold MP.turn; rw [List.length_map]; exact h.len, fun w hw => ?_, fun w hw => ?_, ?_, by rw [edges_turn]; exact h.bwd, by rw [redges_turn]; exact h.fwd⟩
  · obtain ⟨v, hv, rfl⟩ := List.mem_map.mp hw
    exact ⟨(h.ends v hv).2, (h.ends v hv).1⟩
  · obtain ⟨v, hv, rfl⟩ := List.mem_map.mp hw
    exact h.del v hv
  · intro z
    exact h.ne (List.map_eq_nil_iff.mp z)
/-! ### what come_to counts -/
def ctIn (x : Nat) (es : List (Nat × Nat)) (met : List Nat) : List Nat := es.foldl (fun met e => if e.1 = x ∧ e.2 ∉ met then met ++ [e.2] else met) met
def ctStep (es : List (Nat × Nat)) (met : List Nat) (i : Nat) : List Nat := if i < met.length then ctIn (met.getD i 0) es met else met
def comeTo (n : Nat) (es : List (Nat × Nat)) : List Nat := (List.range n).foldl (ctStep es) [0]
theorem ctIn_cons (x : Nat) (e : Nat × Nat) (es : List (Nat × Nat)) (met : List Nat) : ctIn x (e :: es) met = ctIn x es (if e.1 = x ∧ e.2 ∉ met then met ++ [e.2] else met) := rfl
/-- what a turn of the inner loop does -/
theorem ctIn_ok (x : Nat) : ∀ (es : List (Nat × Nat)) (met : List Nat), met.Nodup → (ctIn x es met).Nodup ∧ (∃ r, ctIn x es met = met ++ r ∧ ∀ b ∈ r, (x, b) ∈ es) ∧ ∀ e ∈ es, e.1 = x → e.2 ∈ ctIn x es met
  | [], met, h => ⟨h, ⟨[], by rw [List.append_nil]; rfl, by simp⟩, by simp⟩
  | e :: es, met, h => by
    rw [ctIn_cons]
    by_cases hc : e.1 = x ∧ e.2 ∉ met
    · rw [if_pos hc]
      have h2 : (met ++ [e.2]).Nodup := List.nodup_append.mpr ⟨h, by simp, fun a ha b hb => by
        rintro rfl
        exact hc.2 (by rw [List.mem_singleton.mp hb] at ha; exact ha)⟩
      obtain ⟨i1, ⟨r, i2, i3⟩, i4⟩ := ctIn_ok x es (met ++ [e.2]) h2
      refine ⟨i1, ⟨e.2 :: r, by rw [i2, List.append_assoc]; rfl, fun b hb => ?_⟩, fun d hd hx => ?_⟩
      · rcases List.mem_cons.mp hb with z | z
        · rw [z, ← hc.1]
          exact List.mem_cons_self
        · exact List.mem_cons_of_mem _ (i3 b z)
      · rcases List.mem_cons.mp hd with z | z
        · rw [z, i2]
          exact List.mem_append_left _ (List.mem_append_right _ (by simp))
        · exact i4 d z hx
    · rw [if_neg hc]
      obtain ⟨i1, ⟨r, i2, i3⟩, i4⟩ := ctIn_ok x es met h
      refine ⟨i1, ⟨r, i2, fun b hb => List.mem_cons_of_mem _ (i3 b hb)⟩, fun d hd hx => ?_⟩
      rcases List.mem_cons.mp hd with z | z
      · rw [z] at hx ⊢
        have : e.2 ∈ met := Classical.not_not.mp fun q => hc ⟨hx, q⟩
        rw [i2]
        exact List.mem_append_left _ this
      · exact i4 d z hx
/-- behind i turns: met once each, all come to, the first i closed -/
structure CtOk (es : List (Nat × Nat)) (i : Nat) (met : List Nat) : Prop where
  nd : met.Nodup
  zero : met[0]? = some 0
  reach : ∀ m ∈ met, Reach es 0 m
  closed : ∀ j x, j < i → met[j]? = some x → ∀ e ∈ es, e.1 = x → e.2 ∈ met
theorem ctStep_ok {es : List (Nat × Nat)} {i : Nat} {met : List Nat} (h : CtOk es i met) : CtOk es (i + 1) (ctStep es met i) := by
  unfold ctStep
  by_cases hi : i < met.length
  · rw [if_pos hi]
    obtain ⟨x, hx⟩ : ∃ x, met[i]? = some x := ⟨met[i], List.getElem?_eq_getElem hi⟩
    have ex : met.getD i 0 = x := by rw [List.getD_eq_getElem?_getD, hx]; rfl
    rw [ex]
    obtain ⟨i1, ⟨r, i2, i3⟩, i4⟩ := ctIn_ok x es met h.nd
    have pre : ∀ j y, met[j]? = some y → (ctIn x es met)[j]? = some y := fun j y e => by
      rw [i2, List.getElem?_append_left (List.getElem?_eq_some_iff.mp e).1]
      exact e
    refine ⟨i1, pre _ _ h.zero, fun m hm => ?_, fun j y hj hy e he hey => ?_⟩
    · rw [i2] at hm
      rcases List.mem_append.mp hm with z | z
      · exact h.reach m z
      · exact .step (h.reach x (List.mem_of_getElem? hx)) (i3 m z)
    · by_cases hji : j = i
      · subst hji
        have : y = x := by
          rw [pre _ _ hx] at hy
          exact (Option.some.inj hy).symm
        exact i4 e he (hey.trans this)
      · have hj2 : j < i := by omega
        have hjl : j < met.length := by omega
        have hy2 : met[j]? = some y := by
          rw [i2, List.getElem?_append_left hjl] at hy
          exact hy
        have := h.closed j y hj2 hy2 e he hey
        rw [i2]
        exact List.mem_append_left _ this
  · rw [if_neg hi]
    refine ⟨h.nd, h.zero, h.reach, fun j y hj hy => ?_⟩
    have := (List.getElem?_eq_some_iff.mp hy).1
    exact h.closed j y (by omega) hy
theorem ct_fold {es : List (Nat × Nat)} (n : Nat) : CtOk es n ((List.range n).foldl (ctStep es) [0]) := by
  induction n with
  | zero => exact ⟨by simp, rfl, fun m hm => by rw [List.mem_singleton.mp hm]; exact .refl 0, fun j x hj => by omega⟩
  | succ n ih =>
    rw [List.range_succ, List.foldl_append]
    exact ctStep_ok ih
theorem nodup_lt {l : List Nat} {n : Nat} (h : l.Nodup) (hl : ∀ m ∈ l, m < n) : l.length ≤ n := by
  have := List.Nodup.length_le_of_subset (l₁ := l) (l₂ := List.range n) h (fun m hm => List.mem_range.mpr (hl m hm))
  rwa [List.length_range] at this
/-- all that can be come to, once each -/
theorem comeTo_mem {n : Nat} {es : List (Nat × Nat)} (hn : 1 ≤ n) (he : ∀ e ∈ es, e.1 < n ∧ e.2 < n) : (comeTo n es).Nodup ∧ ∀ m, m ∈ comeTo n es ↔ Reach es 0 m := by
  have c : CtOk es n (comeTo n es) := ct_fold n
  have lt : ∀ m, Reach es 0 m → m < n := fun m r => by
    cases r with
    | refl => omega
    | step _ e => exact (he _ e).2
  have hl : (comeTo n es).length ≤ n := nodup_lt c.nd fun m hm => lt m (c.reach m hm)
  refine ⟨c.nd, fun m => ⟨c.reach m, fun r => ?_⟩⟩
  induction r with
  | refl => exact List.mem_of_getElem? c.zero
  | step _ e ih =>
    obtain ⟨j, hj⟩ := List.mem_iff_getElem?.mp ih
    exact c.closed j _ (by have := (List.getElem?_eq_some_iff.mp hj).1; omega) hj _ e rfl
theorem comeTo_all {n : Nat} {es : List (Nat × Nat)} (hn : 1 ≤ n) (he : ∀ e ∈ es, e.1 < n ∧ e.2 < n) (h : ∀ m, m < n → Reach es 0 m) : (comeTo n es).length = n := by
  obtain ⟨nd, hm⟩ := comeTo_mem hn he
  refine Nat.le_antisymm (nodup_lt nd fun m hmm => ?_) ?_
  · have r := (hm m).mp hmm
    cases r with
    | refl => omega
    | step _ e => exact (he _ e).2
  · have := List.Nodup.length_le_of_subset (l₁ := List.range n) (l₂ := comeTo n es) List.nodup_range (fun m hmm => (hm m).mpr (h m (List.mem_range.mp hmm)))
    rwa [List.length_range] at this
end MP
namespace MP
open PySem PySem.Spec PyProof.Rows L2 Evl
/-! ### the layer: a product of any two fitting ints; a def whose body raises nothing -/
theorem op_mulG {X : Cx} : OpR X (binaryOp .Mult) (rI IntMulOk fun i j => .int (i * j)) := opI fun _ _ _ _ _ _ _ hc q => mul_int q hc
theorem okN {P : Program} {w : World} {K : PySem.W.Frag} {mg : Str → Option Value} {base : Heap} {x qual : Str} {params : Arguments} {body : List Stmt} {scope : Scope} {dvs : List V} {kws : List (Str × V)} {f : Addr} {fd : FuncData}
    {CX : CXT} {N ps : List Str} {k : Nat} {sp : Sp} (F : FunD K x qual params body scope dvs kws f fd) (S : FnScope N ps scope) (len : ∀ vs H Q E, sp vs H Q E → vs.length = ps.length)
    (hbody : ∀ (cdv : Value) (A : Around) (outer : List Env) (s : Shared) (H : Hp) (vs : List V) (Q : VK) (E : XK), Room k (A.deeper (envOfC qual scope s.heap.objs.size f cdv)) → sp vs H Q E →
      ∃ t, PSs (cxOf CX P w K mg base N qual scope f cdv A outer s H E).nox body t ∧ t { nx := fun _ H' => Q .non H', rt := Q } (start N vs) H) : FnOk P w K mg base CX (k + 1) f fd ps sp :=
  F.ok S len fun cdv A outer s H vs Q E hr h => by
    obtain ⟨t, a, b⟩ := hbody cdv A outer s H vs Q E hr h
    exact ⟨t, a.nox, b⟩
def RetU (xs : List V) (H : Hp) (Q : VK) : Prop := ∀ p H2, H p = none → Ex H H2 → H2 p = some (.tup xs) → Q (.ref p) H2
theorem RetU.go {xs : List V} {H H' : Hp} {Q : VK} (k : RetU xs H Q) (e : Ex H H') {p : Addr} {H2 : Hp} (hp : H' p = none) (e2 : Ex H' H2) (h : H2 p = some (.tup xs)) : Q (.ref p) H2 := k p H2 (fresh_back e hp) (e.trans e2) h
/-- what a function does, by values: a value; a new list; a new tuple -/
theorem spv_of {sp : Sp} {vs : List V} {H : Hp} {z : V} (h : ∀ H1, Ex H H1 → ∀ Q E, RetV z H1 Q → sp vs H1 Q E) : SpV sp vs H z := fun H1 e Q q E => h H1 e Q E q
theorem ev_callV {σ : L2.St} {H : Hp} {z : V} {sp : Sp} {vs : List V} {E : XK} {ta : TA} (h : EvA ta σ H vs) (hs : ∀ H1, Ex H H1 → ∀ Q E, RetV z H1 Q → sp vs H1 Q E) : Ev (tCall sp [] E ta) σ H z :=
  ev_call (dvs := []) h (by rw [List.append_nil]; exact spv_of hs)
theorem eu_callU {σ : L2.St} {H : Hp} {xs : List V} {sp : Sp} {vs : List V} {E : XK} {ta : TA} (h : EvA ta σ H vs) (hs : ∀ H1, Ex H H1 → ∀ Q E, RetU xs H1 Q → sp vs H1 Q E) : EvU (tCall sp [] E ta) σ H xs := fun H1 e Q q =>
  h H1 e _ fun H2 e2 => by
    show sp (vs ++ []) H2 Q E
    rw [List.append_nil]
    exact hs H2 (e.trans e2) Q E fun p H3 hp e3 h3 => q p H3 (fresh_back e2 hp) (e2.trans e3) h3
theorem el_callL {σ : L2.St} {H : Hp} {xs : List V} {sp : Sp} {vs : List V} {E : XK} {ta : TA} (h : EvA ta σ H vs) (hs : ∀ H1, Ex H H1 → ∀ Q E, RetL xs H1 Q → sp vs H1 Q E) : EvL (tCall sp [] E ta) σ H xs := fun H1 e Q q =>
  h H1 e _ fun H2 e2 => by
    show sp (vs ++ []) H2 Q E
    rw [List.append_nil]
    exact hs H2 (e.trans e2) Q E fun p H3 hp e3 h3 => q p H3 (fresh_back e2 hp) (e2.trans e3) h3
theorem mulok {i j : Int} (a b : Nat) (ha : i.natAbs < 2 ^ a) (hb : j.natAbs < 2 ^ b) (h0 : 0 < a := by decide) (h1 : 0 < b := by decide) (h : a + b ≤ 1000000 := by decide) : IntMulOk i j := (wide_mul ha hb h0 h1 h).ok
theorem ev_lenS {K : PySem.W.Frag} {σ : L2.St} {H : Hp} {ta : TE} {p : Addr} {xs : List V} (ha : Ev ta σ H (.ref p)) (h : SqL K H p xs ∨ SqT K H p xs) : Ev (tCB (rLenS K) (tCons ta tNil)) σ H (.int (xs.length : Int)) := fun H1 e Q q =>
  ha H1 e _ fun H2 e2 => ⟨p, xs, rfl, h.imp (ex_l (e.trans e2)) (ex_t (e.trans e2)), q H2 e2⟩
/-- isinstance(x, a built-in class) -/
theorem ev_isi {K : PySem.W.Frag} {σ : L2.St} {H : Hp} {ta : TE} {v : V} {n : String} {t : Value} {b : Bool} (ha : Ev ta σ H v) (ty : ∀ H1, Ex H H1 → TyX K H1 v t) (e : PySem.W.kitOne K t (.type n) = some b) : Ev (tCB (rIsi K) (tCons ta (tCons (tC (.ty n)) tNil))) σ H (.bl b) := fun H1 e1 Q q =>
  ha H1 e1 _ fun H2 e2 => ⟨v, .ty n, t, .type n, b, rfl, ClsV.ty n, ty H2 (e1.trans e2), e, q H2 e2⟩
theorem isi_int {K : PySem.W.Frag} {σ : L2.St} {H : Hp} {ta : TE} {i : Int} {n : String} {b : Bool} (ha : Ev ta σ H (.int i)) (e : kitB "int" n = some b := by decide +kernel) : Ev (tCB (rIsi K) (tCons ta (tCons (tC (.ty n)) tNil))) σ H (.bl b) :=
  ev_isi ha (fun _ _ => .base (.int i)) (kit_ty e)
theorem isi_tup {K : PySem.W.Frag} {σ : L2.St} {H : Hp} {ta : TE} {p : Addr} {xs : List V} {n : String} {b : Bool} (ha : Ev ta σ H (.ref p)) (h : H p = some (.tup xs)) (e : kitB "tuple" n = some b := by decide +kernel) : Ev (tCB (rIsi K) (tCons ta (tCons (tC (.ty n)) tNil))) σ H (.bl b) :=
  ev_isi ha (fun _ e1 => .base (.tup (e1 _ _ h))) (kit_ty e)
theorem isi_lst {K : PySem.W.Frag} {σ : L2.St} {H : Hp} {ta : TE} {p : Addr} {xs : List V} {n : String} {b : Bool} (ha : Ev ta σ H (.ref p)) (h : H p = some (.lst xs)) (e : kitB "list" n = some b := by decide +kernel) : Ev (tCB (rIsi K) (tCons ta (tCons (tC (.ty n)) tNil))) σ H (.bl b) :=
  ev_isi ha (fun _ e1 => .base (.lst (e1 _ _ h))) (kit_ty e)
/-! ### the layer, further: what a reading does, told by what follows -/
/-- te does K: whatever is wanted, if K of it holds it is reached -/
def EvK (te : TE) (σ : L2.St) (H : Hp) (K : Hp → VK → Prop) : Prop := ∀ H1, Ex H H1 → ∀ Q : VK, K H1 Q → te σ H1 Q
/-- K asks no more of a greater heap -/
def Mo (K : Hp → VK → Prop) : Prop := ∀ H1 H2 Q, Ex H1 H2 → K H1 Q → K H2 Q
theorem mo_v {z : V} : Mo (RetV z) := fun _ _ _ e k H3 e3 => k H3 (e.trans e3)
theorem mo_l {xs : List V} : Mo (RetL xs) := fun _ _ _ e k p H3 hp e3 h3 => k p H3 (fresh_back e hp) (e.trans e3) h3
theorem mo_u {xs : List V} : Mo (RetU xs) := fun _ _ _ e k p H3 hp e3 h3 => k p H3 (fresh_back e hp) (e.trans e3) h3
section
variable {K : PySem.W.Frag} {σ : L2.St} {H H' : Hp} {ta tb te tx : TE} {t u : TT} {x y z v : V} {D : Ends} {tu tw tz : TS} {g : TG} {C : Hp → VK → Prop}
theorem EvK.mono (e : Ex H H') (h : EvK te σ H C) : EvK te σ H' C := fun H1 e1 Q q => h H1 (e.trans e1) Q q
theorem EvA.toCall {sp : Sp} {vs : List V} {E : XK} {ta : TA} (m : Mo C) (h : EvA ta σ H vs) (hs : ∀ H1, Ex H H1 → ∀ Q E, C H1 Q → sp vs H1 Q E) : EvK (tCall sp [] E ta) σ H C := fun H1 e Q q =>
  h H1 e _ fun H2 e2 => by
    show sp (vs ++ []) H2 Q E
    rw [List.append_nil]
    exact hs H2 (e.trans e2) Q E (m H1 H2 Q e2 q)
theorem ek_meth {Cl : Addr} {m : Str} {sp : Sp} {vs : List V} {E : XK} {ta : TE} {t : TA} {p dx : Addr} {fs : List (Str × V)} (mo : Mo C) (ha : Ev ta σ H (.ref p)) (ho : H p = some (.ins Cl dx fs)) (hm : fs.lookup m = none) (h : EvA t σ H vs)
    (hs : ∀ H1, Ex H H1 → ∀ Q E, C H1 Q → sp (.ref p :: vs) H1 Q E) : EvK (tMeth Cl m sp [] E ta t) σ H C := fun H1 e Q q =>
  ha H1 e _ fun H2 e2 => ⟨p, dx, fs, rfl, (e.trans e2) _ _ ho, hm, h H2 (e.trans e2) _ fun H3 e3 => by
    show sp (.ref p :: (vs ++ [])) H3 Q E
    rw [List.append_nil]
    exact hs H3 ((e.trans e2).trans e3) Q E (mo H1 H3 Q (e2.trans e3) q)⟩
theorem ev_fld {Cl p dx : Addr} {f : Str} {fs : List (Str × V)} (ha : Ev ta σ H (.ref p)) (ho : H p = some (.ins Cl dx fs)) (hc : Cls K Cl) (hn : NoAttr K Cl f) (hl : fs.lookup f = some v) : Ev (tFld K ta f) σ H v := fun H1 e Q q =>
  ha H1 e _ fun H2 e2 => ⟨p, Cl, dx, fs, v, rfl, (e.trans e2) _ _ ho, hc, hn, hl, q H2 e2⟩
theorem s_retK (h : EvK te σ H C) (k : C H D.rt) : tRet te D σ H := h H (Ex.refl H) _ k
theorem s_asgK {i : Nat} (h : EvK te σ H C) (k : C H fun v H1 => D.nx (σ.set i (some v)) H1) : tAsg te (gName i) D σ H := h H (Ex.refl H) _ k
theorem q_asgK {i : Nat} (h : EvK te σ H C) (k : C H fun v H1 => tz D (σ.set i (some v)) H1) : tSeq (tAsg te (gName i)) tz D σ H := s_asgK (D := { D with nx := tz D }) h k
theorem s_dropK (h : EvK te σ H C) (k : C H fun _ H1 => D.nx σ H1) : tDrop te D σ H := h H (Ex.refl H) _ k
theorem q_dropK (h : EvK te σ H C) (k : C H fun _ H1 => tz D σ H1) : tSeq (tDrop te) tz D σ H := s_dropK (D := { D with nx := tz D }) h k
/-- a list, standing or new -/
def EvS (K : PySem.W.Frag) (te : TE) (σ : L2.St) (H : Hp) (xs : List V) : Prop := ∀ H1, Ex H H1 → ∀ Q : VK, (∀ a H2, Ex H1 H2 → SqL K H2 a xs → Q (.ref a) H2) → te σ H1 Q
theorem es_of {a : Addr} {xs : List V} (h : Ev te σ H (.ref a)) (hx : SqL K H a xs) : EvS K te σ H xs := fun H1 e Q q => h H1 e _ fun H2 e2 => q a H2 e2 (ex_l (e.trans e2) hx)
theorem es_new {xs : List V} (h : EvL te σ H xs) : EvS K te σ H xs := fun H1 e Q q => h H1 e _ fun p H2 _ e2 hp => q p H2 e2 (sq_of hp)
/-- a new object, its content known -/
def RetO (o : HO) (H : Hp) (Q : VK) : Prop := ∀ p H2, H p = none → Ex H H2 → H2 p = some o → Q (.ref p) H2
theorem mo_o {o : HO} : Mo (RetO o) := fun _ _ _ e k p H3 hp e3 h3 => k p H3 (fresh_back e hp) (e.trans e3) h3
/-! loops over such a list: nothing that stood at the loop's start is changed in it -/
theorem s_forS {xs : List V} {tl : TE} (h : EvS K tl σ H xs) (Pv : Hp → Nat → L2.St → Hp → Prop) (h0 : ∀ H2, Ex H H2 → Pv H2 0 σ H2) (hl : ∀ H2 i σ' H', Pv H2 i σ' H' → Ex H2 H')
    (hs : ∀ H2, Ex H H2 → ∀ i x σ' H', xs[i]? = some x → Pv H2 i σ' H' → g x σ' H' fun σ2 H3 => tu { D with nx := Pv H2 (i + 1), ct := Pv H2 (i + 1), bk := D.nx } σ2 H3) (hd : ∀ H2, Ex H H2 → ∀ σ' H', Pv H2 xs.length σ' H' → D.nx σ' H') : tFor (iList K tl) g tu D σ H :=
  h H (Ex.refl H) _ fun a H2 e2 hq => ⟨a, rfl, ⟨xs, hq⟩, for_list (Pv H2) (h0 H2 e2) (fun i σ' H' _ p => ex_l (hl H2 i σ' H' p) hq) (hs H2 e2) (hd H2 e2)⟩
theorem q_forS {xs : List V} {tl : TE} (h : EvS K tl σ H xs) (Pv : Hp → Nat → L2.St → Hp → Prop) (h0 : ∀ H2, Ex H H2 → Pv H2 0 σ H2) (hl : ∀ H2 i σ' H', Pv H2 i σ' H' → Ex H2 H')
    (hs : ∀ H2, Ex H H2 → ∀ i x σ' H', xs[i]? = some x → Pv H2 i σ' H' → g x σ' H' fun σ2 H3 => tu { D with nx := Pv H2 (i + 1), ct := Pv H2 (i + 1), bk := tz D } σ2 H3) (hd : ∀ H2, Ex H H2 → ∀ σ' H', Pv H2 xs.length σ' H' → tz D σ' H') : tSeq (tFor (iList K tl) g tu) tz D σ H :=
  s_forS (D := { D with nx := tz D }) h Pv h0 hl hs hd
/-! targets: two, three names from a tuple -/
theorem g_tup2 {i j : Nat} {p : Addr} {a b : V} {Q : L2.St → Hp → Prop} (h : H p = some (.tup [a, b])) (q : Q ((σ.set i (some a)).set j (some b)) H) : gTup K 2 (gCons (gName i) (gCons (gName j) gNil)) (.ref p) σ H Q :=
  ⟨p, [a, b], rfl, st_of h, rfl, a, [b], rfl, b, [], rfl, rfl, q⟩
theorem g_tup3 {i j k : Nat} {p : Addr} {a b c : V} {Q : L2.St → Hp → Prop} (h : H p = some (.tup [a, b, c])) (q : Q (((σ.set i (some a)).set j (some b)).set k (some c)) H) : gTup K 3 (gCons (gName i) (gCons (gName j) (gCons (gName k) gNil))) (.ref p) σ H Q :=
  ⟨p, [a, b, c], rfl, st_of h, rfl, a, [b, c], rfl, b, [c], rfl, c, [], rfl, rfl, q⟩
/-! comprehensions over a list: the states of the turns st, the tests f, what is given: values, or new objects -/
theorem el_lcS {xs : List V} {tl : TE} {vs : List Nat} (st : Nat → L2.St) (f : Nat → Bool) (v : Nat → V) (h : EvS K tl σ H xs) (hz : xs.length ≤ 40000)
    (hg : ∀ (i : Nat) (x : V) H1, Ex H H1 → xs[i]? = some x → ∀ Q : L2.St → Hp → Prop, Q (st i) H1 → g x (wipe σ vs) H1 Q) (hw : ∀ (i : Nat) (x : V), xs[i]? = some x → wipe (st i) vs = wipe σ vs)
    (ht : ∀ (i : Nat) (x : V) H1, Ex H H1 → xs[i]? = some x → EvT t (st i) H1 (f i)) (he : ∀ (i : Nat) (x : V) H1, Ex H H1 → xs[i]? = some x → f i = true → Ev te (st i) H1 (v i)) :
    EvL (tLc (iList K tl) g t te vs) σ H (given xs.length f v) := fun H0 e Q q => h H0 e _ fun a H1 e1 hx => ⟨a, rfl, ⟨xs, hx⟩, fun Dl hD =>
  lc_list (xs := xs) (Cw H1 f v Dl) ⟨hD, Ex.new hD, upd_same⟩ (fun i H' _ p => ex_l p.2.1 hx) (fun i x H' hi p => hg i x H' ((e.trans e1).trans p.2.1) hi _
    ⟨hw i x hi, cw_turn p (by have := (List.getElem?_eq_some_iff.mp hi).1; omega) (ht i x H1 (e.trans e1) hi) (fun hf => he i x H1 (e.trans e1) hi hf)⟩)
    (fun H' p => q Dl H' (fresh_back e1 p.1) (e1.trans p.2.1) p.2.2)⟩
/-- new objects o 0 .. o (n - 1), apart, none of them known to H, in the list at D -/
structure NewObjs (H H' : Hp) (D : Addr) (n : Nat) (o : Nat → HO) (ps : List Addr) : Prop where
  len : ps.length = n
  nd : ps.Nodup
  out : D ∉ ps
  fresh : ∀ p ∈ ps, H p = none
  at_ : ∀ i p, ps[i]? = some p → H' p = some (o i)
def RetOs (n : Nat) (o : Nat → HO) (H : Hp) (Q : VK) : Prop := ∀ D H2 ps, H D = none → Ex H H2 → H2 D = some (.lst (ps.map V.ref)) → NewObjs H H2 D n o ps → Q (.ref D) H2
theorem mo_os {n : Nat} {o : Nat → HO} : Mo (RetOs n o) := fun _ _ _ e k D H3 ps hp e3 h3 n => k D H3 ps (fresh_back e hp) (e.trans e3) h3 ⟨n.len, n.nd, n.out, fun p hp => fresh_back e (n.fresh p hp), n.at_⟩
def Co (H : Hp) (o : Nat → HO) (Dl : Addr) (i : Nat) (H' : Hp) : Prop := ∃ ps, H Dl = none ∧ Ex H H' ∧ H' Dl = some (.lst (ps.map V.ref)) ∧ NewObjs H H' Dl i o ps
theorem co_turn {o : Nat → HO} {Dl : Addr} {i : Nat} {σ2 : L2.St} (p : Co H o Dl i H') (hi : i < 50000) (ht : EvT t σ2 H true) (he : EvK te σ2 H (RetO (o i))) :
    t σ2 H' fun b H3 => if b = true then te σ2 H3 fun y H4 => ∃ acc, H4 Dl = some (.lst acc) ∧ acc.length < sizeLine ∧ Co H o Dl (i + 1) (upd H4 Dl (.lst (acc ++ [y]))) else Co H o Dl (i + 1) H3 := by
  obtain ⟨ps, p1, p2, p3, p4⟩ := p
  refine ht H' p2 _ fun H3 e3 => ?_
  show te σ2 H3 fun y H4 => ∃ acc, H4 Dl = some (.lst acc) ∧ acc.length < sizeLine ∧ Co H o Dl (i + 1) (upd H4 Dl (.lst (acc ++ [y])))
  refine he H3 (p2.trans e3) _ fun q H4 hq e4 hqo => ?_
  have hD4 := e4 Dl _ (e3 Dl _ p3)
  have hqD : q ≠ Dl := fun z => by
    rw [z] at hq
    rw [e3 Dl _ p3] at hq
    cases hq
  have hqn : q ∉ ps := fun z => by
    obtain ⟨j, hj⟩ := List.mem_iff_getElem?.mp z
    have w := e3 _ _ (p4.at_ j q hj)
    rw [hq] at w
    cases w
  refine ⟨ps.map V.ref, hD4, sz_lt (by rw [List.length_map, p4.len]; omega), ps ++ [q], p1, Ex.mut ((p2.trans e3).trans e4) p1, ?_, ?_⟩
  · rw [upd_same, List.map_append]
    rfl
  · refine ⟨by rw [List.length_append, p4.len]; rfl, List.nodup_append.mpr ⟨p4.nd, by simp, fun a ha b hb => ?_⟩, fun z => ?_, fun a ha => ?_, fun j a ha => ?_⟩
    · rintro rfl
      exact hqn (by rw [List.mem_singleton.mp hb] at ha; exact ha)
    · rcases List.mem_append.mp z with z | z
      · exact p4.out z
      · exact hqD (List.mem_singleton.mp z).symm
    · rcases List.mem_append.mp ha with z | z
      · exact p4.fresh a z
      · rw [List.mem_singleton.mp z]
        exact fresh_back (p2.trans e3) hq
    · by_cases hj : j < ps.length
      · rw [List.getElem?_append_left hj] at ha
        have hne : a ≠ Dl := fun z => p4.out (by rw [← z]; exact List.mem_of_getElem? ha)
        rw [upd_ne hne]
        exact e4 _ _ (e3 _ _ (p4.at_ j a ha))
      · have hj2 : j = ps.length := by
          have := (List.getElem?_eq_some_iff.mp ha).1
          rw [List.length_append] at this
          simp at this
          omega
        subst hj2
        rw [List.getElem?_append_right (Nat.le_refl _), Nat.sub_self] at ha
        obtain rfl : q = a := by simpa using ha
        rw [upd_ne hqD, p4.len]
        exact hqo
theorem ek_lcS {xs : List V} {tl : TE} {vs : List Nat} (st : Nat → L2.St) (o : Nat → HO) (h : EvS K tl σ H xs) (hz : xs.length ≤ 40000)
    (hg : ∀ (i : Nat) (x : V) H1, Ex H H1 → xs[i]? = some x → ∀ Q : L2.St → Hp → Prop, Q (st i) H1 → g x (wipe σ vs) H1 Q) (hw : ∀ (i : Nat) (x : V), xs[i]? = some x → wipe (st i) vs = wipe σ vs)
    (ht : ∀ (i : Nat) (x : V) H1, Ex H H1 → xs[i]? = some x → EvT t (st i) H1 true) (he : ∀ (i : Nat) (x : V) H1, Ex H H1 → xs[i]? = some x → EvK te (st i) H1 (RetO (o i))) :
    EvK (tLc (iList K tl) g t te vs) σ H (RetOs xs.length o) := fun H0 e Q q => h H0 e _ fun a H1 e1 hx => ⟨a, rfl, ⟨xs, hx⟩, fun Dl hD =>
  lc_list (xs := xs) (Co H1 o Dl) ⟨[], hD, Ex.new hD, upd_same, ⟨rfl, List.nodup_nil, by simp, by simp, by simp⟩⟩ (fun i H' _ ⟨_, _, p, _⟩ => ex_l p hx) (fun i x H' hi p => hg i x H' (by obtain ⟨_, _, p, _⟩ := p; exact (e.trans e1).trans p) hi _
    ⟨hw i x hi, co_turn p (by have := (List.getElem?_eq_some_iff.mp hi).1; omega) (ht i x H1 (e.trans e1) hi) (he i x H1 (e.trans e1) hi)⟩)
    (fun H' ⟨ps, p1, p2, p3, p4⟩ => q Dl H' ps (fresh_back e1 p1) (e1.trans p2) p3 ⟨p4.len, p4.nd, p4.out, fun z hz => fresh_back e1 (p4.fresh z hz), p4.at_⟩)⟩
theorem ek_lcR {ta : TA} {j : Nat} {vs : List Nat} {n : Nat} (o : Nat → HO) (h : EvA ta σ H [.int (n : Int)]) (hn : n ≤ 40000) (hw : ∀ x, wipe ((wipe σ vs).set j (some x)) vs = wipe σ vs)
    (ht : ∀ (i : Nat) H1, Ex H H1 → i < n → EvT t ((wipe σ vs).set j (some (.int (i : Int)))) H1 true) (he : ∀ (i : Nat) H1, Ex H H1 → i < n → EvK te ((wipe σ vs).set j (some (.int (i : Int)))) H1 (RetO (o i))) :
    EvK (tLc (iRng1 ta) (gName j) t te vs) σ H (RetOs n o) := fun H0 e Q q => h H0 e _ fun H1 e1 => ⟨(n : Int), rfl, by omega, by omega, fun Dl hD =>
  lc_range (lo := 0) (n := (n : Int).toNat) (Co H1 o Dl) ⟨[], hD, Ex.new hD, upd_same, ⟨rfl, List.nodup_nil, by simp, by simp, by simp⟩⟩ (fun i H' hi p => by
    have e0 : (0 : Int) + (i : Int) = (i : Int) := Int.zero_add _
    show wipe ((wipe σ vs).set j (some (.int ((0 : Int) + (i : Int))))) vs = wipe σ vs ∧ t ((wipe σ vs).set j (some (.int ((0 : Int) + (i : Int))))) H' fun b H3 => if b = true then te ((wipe σ vs).set j (some (.int ((0 : Int) + (i : Int))))) H3 fun y H4 => ∃ acc, H4 Dl = some (.lst acc) ∧ acc.length < sizeLine ∧ Co H1 o Dl (i + 1) (upd H4 Dl (.lst (acc ++ [y]))) else Co H1 o Dl (i + 1) H3
    rw [e0]
    exact ⟨hw _, co_turn p (by omega) (ht i H1 (e.trans e1) (by omega)) (he i H1 (e.trans e1) (by omega))⟩)
    (fun H' ⟨ps, p1, p2, p3, p4⟩ => q Dl H' ps (fresh_back e1 p1) (e1.trans p2) p3 ⟨by rw [p4.len, Int.toNat_natCast], p4.nd, p4.out, fun z hz => fresh_back e1 (p4.fresh z hz), p4.at_⟩)⟩
/-- all are given -/
theorem given_all {n : Nat} {v : Nat → V} : given n (fun _ => true) v = (List.range n).map v := by
  unfold given
  rw [List.filter_eq_self.mpr (fun _ _ => rfl)]
theorem et_true : EvT (fun _ H Q => Q true H) σ H true := fun H1 _ _ q => q H1 (Ex.refl H1)
end
/-! ### the greatest of some ints -/
def mxI : List Int → Int
  | [] => 0
  | [x] => x
  | x :: y :: r => max x (mxI (y :: r))
theorem mxI_mem : ∀ {xs : List Int}, xs ≠ [] → mxI xs ∈ xs
  | [], h => absurd rfl h
  | [x], _ => List.mem_cons_self
  | x :: y :: r, _ => by
    show max x (mxI (y :: r)) ∈ _
    have ih := mxI_mem (xs := y :: r) (by simp)
    rcases Int.le_total x (mxI (y :: r)) with h | h
    · rw [Int.max_eq_right h]
      exact List.mem_cons_of_mem _ ih
    · rw [Int.max_eq_left h]
      exact List.mem_cons_self
theorem le_mxI : ∀ {xs : List Int} {x : Int}, x ∈ xs → x ≤ mxI xs
  | [], _, h => by cases h
  | [x], y, h => by
    rw [List.mem_singleton.mp h]
    exact Int.le_refl _
  | x :: y :: r, z, h => by
    show z ≤ max x (mxI (y :: r))
    rcases List.mem_cons.mp h with h | h
    · rw [h]
      exact Int.le_max_left _ _
    · exact Int.le_trans (le_mxI h) (Int.le_max_right _ _)
theorem mxI_is {xs : List Int} {m : Int} (h : m ∈ xs) (hm : ∀ y ∈ xs, y ≤ m) : m = mxI xs :=
  Int.le_antisymm (le_mxI h) (hm _ (mxI_mem (by intro z; rw [z] at h; cases h)))
theorem mxI_le {xs : List Int} {b : Int} (h : xs ≠ []) (hb : ∀ y ∈ xs, y ≤ b) : mxI xs ≤ b := hb _ (mxI_mem h)
section
variable {K : PySem.W.Frag} {σ : L2.St} {H : Hp} {ta : TE}
theorem ev_max {ns : List Int} (h : EvS K ta σ H (ns.map V.int)) (hne : ns ≠ []) : Ev (tCB (rMax K) (tCons ta tNil)) σ H (.int (mxI ns)) := fun H1 e Q q =>
  h H1 e _ fun a H2 e2 hq => ⟨a, ns, rfl, hq, List.length_pos_iff.mpr hne, fun m h1 h2 => by rw [mxI_is h1 h2]; exact q H2 e2⟩
end
/-! ### heaps: lists of tuples, lists of lists, webs -/
/-- the values vs are tuples of these -/
def Tups (H : Hp) (vs : List V) (xss : List (List V)) : Prop := vs.length = xss.length ∧ ∀ (i : Nat) (x : List V), xss[i]? = some x → ∃ p, vs[i]? = some (.ref p) ∧ H p = some (.tup x)
theorem Tups.ex {H H' : Hp} {vs : List V} {xss : List (List V)} (e : Ex H H') (h : Tups H vs xss) : Tups H' vs xss := ⟨h.1, fun i x hx => by
  obtain ⟨p, a, b⟩ := h.2 i x hx
  exact ⟨p, a, e _ _ b⟩⟩
theorem Tups.at {H : Hp} {vs : List V} {xss : List (List V)} {i : Nat} {v : V} (h : Tups H vs xss) (hv : vs[i]? = some v) : ∃ p x, v = .ref p ∧ xss[i]? = some x ∧ H p = some (.tup x) := by
  have hi := (List.getElem?_eq_some_iff.mp hv).1
  rw [h.1] at hi
  obtain ⟨p, a, b⟩ := h.2 i _ (List.getElem?_eq_getElem hi)
  rw [hv] at a
  exact ⟨p, _, Option.some.inj a, List.getElem?_eq_getElem hi, b⟩
theorem Tups.nil {H : Hp} : Tups H [] [] := ⟨rfl, fun i x h => by simp at h⟩
theorem tups_new {H H' : Hp} {D : Addr} {n : Nat} {f : Nat → List V} {ps : List Addr} (h : NewObjs H H' D n (fun i => .tup (f i)) ps) : Tups H' (ps.map V.ref) ((List.range n).map f) := by
  refine ⟨by simp [h.len], fun i x hx => ?_⟩
  rw [List.getElem?_map] at hx
  have hi : i < n := by
    cases Nat.lt_or_ge i n with
    | inl z => exact z
    | inr z =>
      rw [List.getElem?_eq_none (by simpa using z)] at hx
      cases hx
  rw [List.getElem?_range hi] at hx
  obtain rfl : f i = x := by simpa using hx
  obtain ⟨p, hp⟩ : ∃ p, ps[i]? = some p := ⟨ps[i]'(by rw [h.len]; exact hi), List.getElem?_eq_getElem _⟩
  exact ⟨p, by rw [List.getElem?_map, hp]; rfl, h.at_ i p hp⟩
def wayV (w : Way) : List V := [.int (w.1 : Int), .int (w.2.1 : Int), .int (w.2.2 : Int)]
def pairV (p : Nat × Nat) : List V := [.int (p.1 : Int), .int (p.2 : Int)]
def natV (ms : List Nat) : List V := ms.map fun (m : Nat) => V.int (m : Int)
theorem natV_app (xs ys : List Nat) : natV (xs ++ ys) = natV xs ++ natV ys := List.map_append
theorem natV_at {ms : List Nat} {i m : Nat} (h : ms[i]? = some m) : (natV ms)[i]? = some (.int (m : Int)) := by
  unfold natV
  rw [List.getElem?_map, h]
  rfl
theorem natV_len (ms : List Nat) : (natV ms).length = ms.length := List.length_map _
theorem flat_natV (ms : List Nat) : (natV ms).all flatV = true := by
  rw [List.all_eq_true]
  intro v hv
  obtain ⟨m, _, rfl⟩ := List.mem_map.mp hv
  rfl
theorem inV_nat (b : Nat) (ms : List Nat) : inV (.int (b : Int)) (natV ms) = decide (b ∈ ms) := by
  unfold inV natV
  rw [List.any_map]
  by_cases h : b ∈ ms
  · rw [decide_eq_true h, List.any_eq_true]
    exact ⟨b, h, by show ((b : Int) == (b : Int)) = true; exact beq_self_eq_true _⟩
  · rw [decide_eq_false h, List.any_eq_false]
    intro x hx z
    have z2 : ((x : Int) == (b : Int)) = true := z
    have : (x : Int) = (b : Int) := eq_of_beq z2
    have : x = b := by omega
    rw [this] at hx
    exact h hx
theorem map_getD {α β : Type} (l : List α) (d : α) (f : α → β) : (List.range l.length).map (fun i => f (l.getD i d)) = l.map f := by
  apply List.ext_getElem?
  intro i
  rw [List.getElem?_map, List.getElem?_map]
  cases Nat.lt_or_ge i l.length with
  | inl h => rw [List.getElem?_range h, List.getElem?_eq_getElem h, Option.map_some, Option.map_some, List.getD_eq_getElem?_getD, List.getElem?_eq_getElem h]; rfl
  | inr h => rw [List.getElem?_eq_none (by simpa using h), List.getElem?_eq_none h]; rfl
theorem getD_of {α : Type} {l : List α} {i : Nat} {x d : α} (h : l[i]? = some x) : l.getD i d = x := by
  rw [List.getD_eq_getElem?_getD, h]
  rfl
/-- the attributes of a web, as its __init__ stores them -/
def wf1 (n : Nat) : List (Str × V) := putF "many" (.int (n : Int)) []
def wf2 (n : Nat) (lw : Addr) : List (Str × V) := putF "ways" (.ref lw) (wf1 n)
def webF (n : Nat) (lw li : Addr) : List (Str × V) := putF "inner" (.ref li) (wf2 n lw)
theorem n_mw : ¬ (("many" : Str) = "ways") := by decide +kernel
theorem n_mi : ¬ (("many" : Str) = "inner") := by decide +kernel
theorem n_wi : ¬ (("ways" : Str) = "inner") := by decide +kernel
theorem wf1_many (n : Nat) : (wf1 n).lookup ("many" : Str) = some (.int (n : Int)) := by
  unfold wf1
  rw [lookup_putF, if_pos rfl]
theorem wf2_many (n : Nat) (lw : Addr) : (wf2 n lw).lookup ("many" : Str) = some (.int (n : Int)) := by
  unfold wf2
  rw [lookup_putF, if_neg n_mw, wf1_many]
theorem wf2_ways (n : Nat) (lw : Addr) : (wf2 n lw).lookup ("ways" : Str) = some (.ref lw) := by
  unfold wf2
  rw [lookup_putF, if_pos rfl]
theorem webF_many (n : Nat) (lw li : Addr) : (webF n lw li).lookup ("many" : Str) = some (.int (n : Int)) := by
  unfold webF
  rw [lookup_putF, if_neg n_mi, wf2_many]
theorem webF_ways (n : Nat) (lw li : Addr) : (webF n lw li).lookup ("ways" : Str) = some (.ref lw) := by
  unfold webF
  rw [lookup_putF, if_neg n_wi, wf2_ways]
theorem webF_inner (n : Nat) (lw li : Addr) : (webF n lw li).lookup ("inner" : Str) = some (.ref li) := by
  unfold webF
  rw [lookup_putF, if_pos rfl]
theorem wf2_no (n : Nat) (lw : Addr) {m : Str} (h1 : ¬ m = "many") (h2 : ¬ m = "ways") : (wf2 n lw).lookup m = none := by
  unfold wf2 wf1
  rw [lookup_putF, if_neg h2, lookup_putF, if_neg h1]
  rfl
theorem webF_no (n : Nat) (lw li : Addr) {m : Str} (h1 : ¬ m = "many") (h2 : ¬ m = "ways") (h3 : ¬ m = "inner") : (webF n lw li).lookup m = none := by
  unfold webF
  rw [lookup_putF, if_neg h3, wf2_no n lw h1 h2]
theorem putF_len (f : Str) (v : V) : ∀ fs : List (Str × V), (putF f v fs).length ≤ fs.length + 1
  | [] => Nat.le_refl _
  | (g, x) :: r => by
    unfold putF
    split
    · show r.length + 1 ≤ r.length + 1 + 1
      omega
    · have := putF_len f v r
      show (putF f v r).length + 1 ≤ r.length + 1 + 1
      omega
/-- a web stands at p -/
def WebAt (C : Addr) (H : Hp) (p : Addr) (n : Nat) (ws : List Way) : Prop := ∃ (dx lw li : Addr) (vw vi : List V), H p = some (.ins C dx (webF n lw li)) ∧ H lw = some (.lst vw) ∧ Tups H vw (ws.map wayV) ∧ H li = some (.lst vi) ∧ vi.length = n ∧
  ∀ m, m < n → ∃ (lm : Addr) (vm : List V), vi[m]? = some (.ref lm) ∧ H lm = some (.lst vm) ∧ Tups H vm ((inn ws m).map pairV)
theorem WebAt.ex {C : Addr} {H H' : Hp} {p : Addr} {n : Nat} {ws : List Way} (e : Ex H H') (h : WebAt C H p n ws) : WebAt C H' p n ws := by
  obtain ⟨dx, lw, li, vw, vi, h1, h2, h3, h4, h5, h6⟩ := h
  refine ⟨dx, lw, li, vw, vi, e _ _ h1, e _ _ h2, h3.ex e, e _ _ h4, h5, fun m hm => ?_⟩
  obtain ⟨lm, vm, k1, k2, k3⟩ := h6 m hm
  exact ⟨lm, vm, k1, e _ _ k2, k3.ex e⟩
/-! more of the layer: two lists put together, an item by its place -/
section
variable {K : PySem.W.Frag} {σ : L2.St} {H H' : Hp} {ta tb te tx : TE}
/-- a list of the call's own, standing or new -/
def EvW (te : TE) (σ : L2.St) (H : Hp) (xs : List V) : Prop := ∀ H1, Ex H H1 → ∀ Q : VK, (∀ a H2, Ex H1 H2 → H2 a = some (.lst xs) → Q (.ref a) H2) → te σ H1 Q
theorem ew_of {a : Addr} {xs : List V} (h : Ev te σ H (.ref a)) (hx : H a = some (.lst xs)) : EvW te σ H xs := fun H1 e Q q => h H1 e _ fun H2 e2 => q a H2 e2 ((e.trans e2) _ _ hx)
theorem ew_new {xs : List V} (h : EvL te σ H xs) : EvW te σ H xs := fun H1 e Q q => h H1 e _ fun p H2 _ e2 hp => q p H2 e2 hp
theorem el_cat {xs ys : List V} (ha : EvW ta σ H xs) (hb : EvW tb σ H ys) (hz : xs.length + ys.length ≤ 100000) : EvL (tOp rCat ta tb) σ H (xs ++ ys) := fun H1 e Q q =>
  ha H1 e _ fun a H2 e2 h2 => hb H2 (e.trans e2) _ fun b H3 e3 h3 => ⟨a, b, xs, ys, rfl, rfl, e3 _ _ h2, h3, sz_of hz, fun p hp => q p _ (fresh_back (e2.trans e3) hp) ((e2.trans e3).trans (Ex.new hp)) upd_same⟩
theorem at_nat {xs : List V} {j : Nat} {i : Int} {v : V} (h : xs[j]? = some v) (e : i = (j : Int) := by rfl) : atI xs i = some v := at_of e h
theorem at_last {xs : List V} {v : V} (h : xs[xs.length - 1]? = some v) : atI xs (-1) = some v := by
  have hl := (List.getElem?_eq_some_iff.mp h).1
  unfold atI ixN
  rw [if_neg (by decide), if_pos (by omega)]
  show xs[((-1 : Int) + (xs.length : Int)).toNat]? = some v
  rw [show ((-1 : Int) + (xs.length : Int)).toNat = xs.length - 1 by omega]
  exact h
theorem at_neg {xs : List V} {v : V} {k : Nat} {i : Int} (h : xs[xs.length - k]? = some v) (hk : 0 < k) (hi : i = -(k : Int)) (hle : k ≤ xs.length) : atI xs i = some v := by
  subst hi
  unfold atI ixN
  rw [if_neg (by omega), if_pos (by omega)]
  show xs[(-(k : Int) + (xs.length : Int)).toNat]? = some v
  rw [show (-(k : Int) + (xs.length : Int)).toNat = xs.length - k by omega]
  exact h
/-- xs[i], the list new or standing -/
theorem ev_ixW {xs : List V} {i : Int} {v : V} (ha : EvS K ta σ H xs) (hb : Ev tb σ H (.int i)) (h : atI xs i = some v) : Ev (tOp (rIxL K) ta tb) σ H v := fun H1 e Q q =>
  ha H1 e _ fun a H2 e2 h2 => hb H2 (e.trans e2) _ fun H3 e3 => ⟨a, xs, i, v, rfl, rfl, ex_l e3 h2, h, q H3 (e2.trans e3)⟩
/-- t[i] of a tuple just made or standing -/
theorem ev_ixU {p : Addr} {xs : List V} {i : Int} {v : V} (ha : Ev ta σ H (.ref p)) (hp : H p = some (.tup xs)) (hb : Ev tb σ H (.int i)) (h : atI xs i = some v) : Ev (tOp (rIxT K) ta tb) σ H v :=
  ev_op ha hb (rv_ixT (st_of hp) h)
theorem el_listW {xs : List V} (ha : EvS K ta σ H xs) : EvL (tCB (rListS K) (tCons ta tNil)) σ H xs := fun H1 e Q q =>
  ha H1 e _ fun a H2 e2 h2 => ⟨a, xs, rfl, Or.inl h2, fun l hl => q l _ (fresh_back e2 hl) (e2.trans (Ex.new hl)) upd_same⟩
theorem ev_lenW {xs : List V} (ha : EvS K ta σ H xs) : Ev (tCB (rLenS K) (tCons ta tNil)) σ H (.int (xs.length : Int)) := fun H1 e Q q =>
  ha H1 e _ fun a H2 e2 h2 => ⟨a, xs, rfl, Or.inl h2, q H2 e2⟩
/-- xs == [], of ints or of tuples -/
theorem rne_nil : True := trivial
end
/-! ### max(xs, default=None): the greatest, None of none -/
section
open PySem.W PySem.Calls
variable {prog : Program} {w : World} {A : Around} {R : Result → Shared → Prop} {I : Addr} {fp wr : List Addr} {n : Nat} {P : Nat → Value → Prop} {St : Nat → Heap → Prop} {kws : List (Str × Value)}
abbrev mxCall (I S : Addr) (kws : List (Str × Value)) : Code := .builtin "max.loop" ⟨[.ref I, .none, .ref S], kws⟩
theorem mx_name : (toString "max" ++ toString ".loop" : String) = "max.loop" := by decide
/-- the turns behind the first one: j + 1 items seen, the best of them held -/
theorem mx_on (wk : Walks prog w A.in1 I fp wr n P St) (bt : Nat → Nat → Bool) (cmp : CmpOf prog w A.in1 .Gt P bt) (S : Addr) (Sfp : S ∉ fp) : ∀ (k j : Nat) (s : Shared) (vb : Value) (c : Nat), n - (j + 1) = k → j + 1 ≤ n → St (j + 1) s.heap → P (argBest bt j) vb →
    s.heap.get? S = some { cls := .type "list", data := .seq #[vb, vb] c } →
    (∀ v g tk, P (argBest bt (n - 1)) v → (∀ b o, b ∉ wr → b ≠ S → s.heap.get? b = some o → g.get? b = some o) → R (.ok (.ret v)) { s with heap := g, toks := tk }) → codeAny (model prog w) A (mxCall I S kws) R s
  | 0, j, s, vb, c, hk, hj, st0, pb, atS, fin => by
    have jn : j + 1 = n := by omega
    have Swr : S ∉ wr := fun z => Sfp (wk.sub _ z)
    apply codeAny_builtin F.entry_max_loop
    rw [Around.under_plainId F.plain_max_loop _]
    show wpAny _ A.in1 (seqItems? (.ref S) >>= _) _ _ s
    apply wpAny_bind
    apply wpAny_seqItems atS rfl
    show wpAny _ A.in1 (tryCatch (pyNext (.ref I)) _ >>= _) _ _ s
    apply wpAny_bind
    apply wpAny_tryCatch
    refine wk.done s _ _ (by rw [← jn]; exact st0) fun g tk kg => ?_
    have atS2 := kg S _ Swr atS
    show wpAny _ A.in1 (updateSeq S (fun _ => #[]) >>= _) _ _ _
    apply wpAny_bind
    apply wpAny_updateSeq atS2 rfl
    apply wpAny_bind
    apply wpAny_letGo
    apply wpAny_pure
    exact fin vb _ tk (by rw [← jn]; exact pb) fun b o h1 h2 e => (Heap.get?_update_other _ _ (Ne.symm h2)).trans (kg b o h1 e)
  | k + 1, j, s, vb, c, hk, hj, st0, pb, atS, fin => by
    have jn : j + 1 < n := by omega
    have Swr : S ∉ wr := fun z => Sfp (wk.sub _ z)
    apply codeAny_builtin F.entry_max_loop
    rw [Around.under_plainId F.plain_max_loop _]
    show wpAny _ A.in1 (seqItems? (.ref S) >>= _) _ _ s
    apply wpAny_bind
    apply wpAny_seqItems atS rfl
    show wpAny _ A.in1 (tryCatch (pyNext (.ref I)) _ >>= _) _ _ s
    apply wpAny_bind
    apply wpAny_tryCatch
    refine wk.item (j + 1) s _ _ jn st0 fun v g tk pv stg kg => ?_
    have atS2 := kg S _ Swr atS
    show wpAny _ A.in1 (tryCatch (holding [v, v] (richCompare .Gt v vb >>= _)) _ >>= _) _ _ _
    apply wpAny_bind
    apply wpAny_tryCatch
    apply wpAny_holding
    apply wpAny_bind
    refine cmp (j + 1) (argBest bt j) v vb _ _ _ pv pb ?_
    apply wpAny_bind
    apply wpAny_holding
    apply wpAny_truthy_bool
    apply wpAny_bind
    apply wpAny_letGo
    apply wpAny_pure
    cases hb : bt (j + 1) (argBest bt j) with
    | true =>
      simp only [if_true]
      apply wpAny_bind
      apply wpAny_updateSeq atS2 rfl
      apply wpAny_bind
      apply wpAny_letGo
      rw [mx_name]
      have stg2 : St (j + 1 + 1) (g.update S (Obj.mapSeq fun _ => #[v, v])) := wk.frame _ _ _ stg fun b hf o e => (Heap.get?_update_other _ _ (fun z : S = b => Sfp (by rw [z]; exact hf))).trans e
      refine wpAny_pure ⟨plainId_quiet F.plain_max_loop _, mx_on wk bt cmp S Sfp k (j + 1) _ v _ (by omega) jn stg2 (by simp only [argBest, hb, if_true]; exact pv) (Heap.get?_update_self _ atS2 rfl) fun v2 g2 tk2 p2 k2 => fin v2 g2 tk2 p2 fun b o h1 h2 e => ?_⟩
      exact k2 b o h1 h2 ((Heap.get?_update_other _ _ (Ne.symm h2)).trans (kg b o h1 e))
    | false =>
      simp only [Bool.false_eq_true, if_false]
      apply wpAny_bind
      apply wpAny_letGo
      rw [mx_name]
      refine wpAny_pure ⟨plainId_quiet F.plain_max_loop _, mx_on wk bt cmp S Sfp k (j + 1) _ vb c (by omega) jn stg (by simp only [argBest, hb, Bool.false_eq_true, if_false]; exact pb) atS2 fun v2 g2 tk2 p2 k2 => fin v2 g2 tk2 p2 fun b o h1 h2 e => ?_⟩
      exact k2 b o h1 h2 (kg b o h1 e)
/-- the first turn: an item, or none and the default -/
theorem mx_first (wk : Walks prog w A.in1 I fp wr n P St) (bt : Nat → Nat → Bool) (cmp : CmpOf prog w A.in1 .Gt P bt) (S : Addr) (Sfp : S ∉ fp) {s : Shared} {c : Nat} {x : Str} {d : Value} (st0 : St 0 s.heap) (atS : s.heap.get? S = some { cls := .type "list", data := .seq #[] c })
    (fin0 : n = 0 → ∀ g tk, (∀ b o, b ∉ wr → b ≠ S → s.heap.get? b = some o → g.get? b = some o) → R (.ok (.ret d)) { s with heap := g, toks := tk })
    (fin : 0 < n → ∀ v g tk, P (argBest bt (n - 1)) v → (∀ b o, b ∉ wr → b ≠ S → s.heap.get? b = some o → g.get? b = some o) → R (.ok (.ret v)) { s with heap := g, toks := tk }) : codeAny (model prog w) A (mxCall I S [(x, d)]) R s := by
  have Swr : S ∉ wr := fun z => Sfp (wk.sub _ z)
  apply codeAny_builtin F.entry_max_loop
  rw [Around.under_plainId F.plain_max_loop _]
  show wpAny _ A.in1 (seqItems? (.ref S) >>= _) _ _ s
  apply wpAny_bind
  apply wpAny_seqItems atS rfl
  show wpAny _ A.in1 (tryCatch (pyNext (.ref I)) _ >>= _) _ _ s
  apply wpAny_bind
  apply wpAny_tryCatch
  by_cases hn : n = 0
  · refine wk.done s _ _ (by rw [hn]; exact st0) fun g tk kg => ?_
    show wpAny _ A.in1 (do let _ ← rule "max.default"; ret d) _ _ _
    exact wpAny_bind (wpAny_rule (wpAny_pure (fin0 hn g tk fun b o h1 _ e => kg b o h1 e)))
  · have h0 : 0 < n := by omega
    refine wk.item 0 s _ _ h0 st0 fun v g tk pv stg kg => ?_
    have atS2 := kg S _ Swr atS
    show wpAny _ A.in1 (updateSeq S (fun _ => #[v, v]) >>= _) _ _ _
    apply wpAny_bind
    apply wpAny_updateSeq atS2 rfl
    rw [mx_name]
    have stg2 : St (0 + 1) (g.update S (Obj.mapSeq fun _ => #[v, v])) := wk.frame _ _ _ stg fun b hf o e => (Heap.get?_update_other _ _ (fun z : S = b => Sfp (by rw [z]; exact hf))).trans e
    refine wpAny_pure ⟨plainId_quiet F.plain_max_loop _, mx_on wk bt cmp S Sfp _ 0 _ v _ rfl h0 stg2 pv (Heap.get?_update_self _ atS2 rfl) fun v2 g2 tk2 p2 k2 => fin h0 v2 g2 tk2 p2 fun b o h1 h2 e => ?_⟩
    exact k2 b o h1 h2 ((Heap.get?_update_other _ _ (Ne.symm h2)).trans (kg b o h1 e))
end
section
open PySem.W PySem.Calls
variable {prog : Program} {w : World} {A : Around} {E : Value → Shared → Prop} {s : Shared}
theorem args_maxD (a d : Value) : argsOk "max" ⟨[a], [(Str.ofString "default", d)]⟩ := by unfold argsOk; kernel_rfl
theorem max_dflt {l : Addr} {its : List Value} {ns : List Int} {d : Value} {Q : Value → Shared → Prop} (hh : A.handled = none) (hl : s.heap.IsList l its.toArray) (hi : IntsAre its ns)
    (q0 : ns = [] → ∀ g tk, (∀ b o, s.heap.get? b = some o → g.get? b = some o) → Q d { s with heap := g, toks := tk })
    (q1 : ns ≠ [] → ∀ g tk t, (∀ b o, s.heap.get? b = some o → g.get? b = some o) → Q (.int (mxI ns) t) { s with heap := g, toks := tk }) : wpAny (model prog w) A (call (.builtin "max") [.ref l] [(Str.ofString "default", d)]) Q E s := by
  obtain ⟨xs, e⟩ := hi.allInts.items
  have hn : ns = xs.toList.map (·.1) := by
    rw [← hi.numsOf, ← PySem.nums_intItems, ← e]
  rw [e] at hl
  have hsz : xs.size = ns.length := by rw [hn]; simp
  refine wpAny_call (codeAny_call_builtin PySem.F.plain_max PySem.F.entry_max ?_)
  have step : ∀ (T : Sem PySem.Fin) (Q1 : PySem.Fin → Shared → Prop) (E1 : Value → Shared → Prop), wpAny (model prog w) A.in1 T Q1 E1 s → wpAny (model prog w) A.in1 (checkBuiltinCall "max" ⟨[.ref l], [(Str.ofString "default", d)]⟩) (fun _ s1 => wpAny (model prog w) A.in1 T Q1 E1 s1) E1 s := by
    intro T Q1 E1 hT
    have ha := args_maxD (.ref l) d
    simp only [checkBuiltinCall, PySem.F.kind_max]
    cases hs : Manifest.signature? "max" with
    | none => exact wpAny_pure hT
    | some sg =>
      have hb : Bind.checkArgs "max" sg ⟨[.ref l], [(Str.ofString "default", d)]⟩ = pure () := by simpa only [argsOk, hs] using ha
      simp only [hb]
      exact wpAny_pure hT
  apply step
  show wpAny _ A.in1 (Builtin.Builtins.bindParams "max" ["key", "default"] 0 ⟨[], [(Str.ofString "default", d)]⟩ >>= _) _ _ s
  have hbp : Builtin.Builtins.bindParams "max" ["key", "default"] 0 ⟨[], [(Str.ofString "default", d)]⟩ = pure [none, some d] := by first | rfl | kernel_rfl
  refine wpAny_bind (wpAny_of_eq hbp ?_)
  apply wpAny_bind
  apply wpAny_pure
  apply wpAny_bind
  refine iter_intList (xs := xs) hl fun s2 es st hfp hlI => ?_
  subst es
  apply wpAny_bind
  refine wpAny_newObj_type ?_
  have hSf : (s.heap.push { cls := .type "list_iterator", data := .fields #[.ref l, .int 0 0] }).objs.size ∉ [s.heap.objs.size, l] := fun hm => Nat.lt_irrefl _ (hfp _ hm)
  have up : ∀ {g : Heap}, (∀ b o, b ∉ [s.heap.objs.size] → b ≠ (s.heap.push { cls := .type "list_iterator", data := .fields #[.ref l, .int 0 0] }).objs.size → ((s.heap.push { cls := .type "list_iterator", data := .fields #[.ref l, .int 0 0] }).push { cls := .type "list", data := .seq #[] }).get? b = some o → g.get? b = some o) → ∀ b o, s.heap.get? b = some o → g.get? b = some o := fun {g} kg b o e => by
    have e1 : (s.heap.push { cls := .type "list_iterator", data := .fields #[.ref l, .int 0 0] }).get? b = some o := Heap.get?_push_of_some _ e
    refine kg b o (fun hm => ?_) (Nat.ne_of_lt (Heap.lt_size e1)) (Heap.get?_push_of_some _ e1)
    rw [List.mem_singleton.mp hm] at e
    exact Nat.lt_irrefl _ (Heap.lt_size e)
  rw [mx_name]
  refine wpAny_pure ⟨plainId_quiet F.plain_max_loop _, mx_first (n := (intItems xs).size) (Walks.list (A := A.in1) hh _ l hlI (intItems xs)) _ (CmpOf.ints_gt (numAt xs) (fun _ _ => intItems_at)) _ hSf (x := "default") (d := d) ⟨st.1.at fun o e => Heap.get?_push_of_some _ e, st.2.push _⟩ (Heap.get?_push_size _ rfl) (fun h0 g tk kg => ?_) (fun h0 v g tk hv kg => ?_)⟩
  · have : ns = [] := List.length_eq_zero_iff.mp (by rw [← hsz]; simpa [intItems] using h0)
    exact q0 this g tk (up kg)
  · have hne : ns ≠ [] := fun z => by
      rw [z] at hsz
      have : (intItems xs).size = 0 := by simpa [intItems] using hsz
      omega
    have hv2 : (intItems xs)[argBest (fun i j => decide (numAt xs i > numAt xs j)) (xs.size - 1)]? = some v := by simpa [intItems] using hv
    obtain ⟨t, rfl⟩ := intItems_at hv2
    obtain ⟨b1, b2⟩ := argBest_gt (numAt xs) (xs.size - 1)
    have hm : numAt xs (argBest (fun i j => decide (numAt xs i > numAt xs j)) (xs.size - 1)) = mxI ns := by
      have hpos : 0 < xs.size := by
        rw [hsz]
        exact List.length_pos_iff.mpr hne
      refine mxI_is ?_ fun y hy => ?_
      · rw [hn, numAt_eq]
        exact PySem.getD_mem (by rw [List.length_map, Array.length_toList]; omega)
      · rw [hn] at hy
        obtain ⟨j, hj, rfl⟩ := mem_getD hy
        rw [List.length_map, Array.length_toList] at hj
        rw [← numAt_eq]
        exact b2 j (by omega)
    rw [hm]
    exact q1 hne g tk t (up kg)
end
section
variable {X : Cx}
def rMaxD (K : PySem.W.Frag) : List V → List V → Hp → VK → Prop := fun vs zs H Q => ∃ (a : Addr) (ns : List Int), vs = [V.ref a] ∧ zs = [.non] ∧ SqL K H a (ns.map V.int) ∧ Q (if ns = [] then .non else .int (mxI ns)) H
theorem cr_maxDf (hc : X.calm = true) : CallRK X (.builtin "max") [Str.ofString "default"] (rMaxD X.K) := by
  intro pins s σ H vs zs us ws Q I r rz h
  obtain ⟨a, ns, rfl, rfl, hs, q⟩ := h
  obtain ⟨its, rv, hl, _⟩ := I.list hs
  rw [Vals.ref1 r]
  cases rz with
  | cons r1 r2 =>
    cases r2
    cases r1
    refine max_dflt (I.ok.hd hc) hl.isList rv.ints (fun h0 g tk kg => ⟨.non, H, I.kept kg, rfl, ?_⟩) (fun h0 g tk t kg => ⟨.int (mxI ns), H, I.kept kg, ⟨_, rfl⟩, ?_⟩)
    · rw [if_pos h0] at q
      exact q
    · rw [if_neg h0] at q
      exact q
def tMaxD (K : PySem.W.Frag) (te : TE) : TE := tCKw (rMaxD K) (tCons te tNil) (tCons (tC .non) tNil)
theorem pe_maxD {e : Expr} {te : TE} {p p2 p3 pos : Pos} {j : Nat} (hc : X.calm = true) (hg : Gl X "max") (hm : X.mg "max" = none) (he : PE X e te) (s1 : backTo pos (starEach [e] X.env) = (false, eval e X.env) :: backTo pos (starEach [] X.env) := by rfl) (s2 : (backTo pos (starEach [e] X.env)).any (·.1) = false := by rfl)
    (s3 : starEach [e] X.env = (false, eval e X.env) :: starEach [] X.env := by rfl) : PE X (.Call (.Name "max" p) [e] [⟨some "default", .Constant .none j p2, p3⟩] pos) (tMaxD X.K te) :=
  pe_callBK (cr_maxDf hc) hg hm (by decide +kernel) (pa_cons he pa_nil s3) (pk_cons pe_non pk_nil) (by decide) (by decide) s1 s2 rfl rfl rfl
theorem ev_maxD {K : PySem.W.Frag} {σ : L2.St} {H : Hp} {ta : TE} {ns : List Int} (h : EvS K ta σ H (ns.map V.int)) : Ev (tMaxD K ta) σ H (if ns = [] then .non else .int (mxI ns)) := fun H1 e Q q =>
  h H1 e _ fun a H2 e2 hq => ⟨a, ns, rfl, rfl, hq, q H2 e2⟩
end
/-! ### list(reversed(xs)) -/
section
open RT
variable {prog : Program} {w : World} {A : Around} {E : Value → Shared → Prop} {s : Shared}
/-- a new list takes what a reverse iterator still gives -/
theorem take_rev {R : Result → Shared → Prop} {ri l S : Addr} {zs : Array Value} {c0 : Nat} (hh : A.handled = none) (ir : s.heap.IsRevIter ri l ((zs.size : Int) - 1)) (il : s.heap.IsList l zs) (hne : l ≠ ri) (hz : zs.size ≤ sizeLine) (atS : s.heap.get? S = some { cls := .type "list", data := .seq #[] c0 }) (Sri : S ≠ ri) (Sl : S ≠ l)
    (fin : ∀ (g : Heap) (tk : Nat) (acc : Array Value) (c : Nat), (∀ b o, b ≠ ri → b ≠ S → s.heap.get? b = some o → g.get? b = some o) → g.get? S = some { cls := .type "list", data := .seq acc c } → ItemsOf (fun i v => zs[zs.size - 1 - i]? = some v) acc zs.size → R (.ok (.ret .none)) { s with heap := g, toks := tk }) :
    wpAny (model prog w) A.in1 (Builtin.List.listExtendWith (.ref S) (.ref ri) .none) (fun fl s2 => match fl with | .done f => R (.ok f) s2 | .again c2 => c2.quiet = true ∧ codeAny (model prog w) A c2 R s2) (fun e s2 => R (.error e) s2) s := by
  have wk := (Walks.listRev (prog := prog) (w := w) (A := A.in1) hh ri l hne zs).toS
  have Sfp : S ∉ [ri, l] := by simp only [List.mem_cons, List.not_mem_nil, or_false, not_or]; exact ⟨Sri, Sl⟩
  have tyR : s.TypeIs (.ref ri) "list_reverseiterator" := ir.typeIs
  have same : Builtin.List.listSameRef (.ref S) (.ref ri) = false := by simp [Builtin.List.listSameRef, Sri]
  unfold Builtin.List.listExtendWith
  apply wpAny_bind
  apply wpAny_typeOf tyR
  rw [if_neg (by rw [same]; decide)]
  apply wpAny_bind
  apply wpAny_pyIter_revIter ir
  apply wpAny_bind
  apply wpAny_holding
  unfold Builtin.List.listLengthHint
  apply wpAny_bind
  apply wpAny_specialOf tyR nolen_lri
  show wpAny _ A.in1 (specialOf (Value.ref ri) (Str.ofString "__length_hint__") >>= _) _ _ _
  apply wpAny_bind
  apply wpAny_specialOf tyR hint_lri
  generalize hid : ("list_reverseiterator.__length_hint__" : String) = nm
  wp_delta
  rw [show splitId nm = some ("list_reverseiterator", "__length_hint__") from by subst hid; decide +kernel]
  subst hid
  apply wpAny_bind
  apply wpAny_isInstance (b := true) tyR (by rw [isSubtype_type]; kernel_rfl)
  apply wpAny_pure
  rw [if_neg (by decide)]
  have e0 : ((zs.size : Nat) : Int) - 1 - ((0 : Nat) : Int) = (zs.size : Int) - 1 := by omega
  refine wpAny_pure ⟨plainId_quiet F.plain_extend_loop _, codeAny_extend_loopS wk hz S Sfp _ zs.size 0 _ _ _ rfl (Nat.zero_le _) ⟨Nat.zero_le _, by rw [e0]; exact ir, il⟩ atS (ItemsOf.nil _) fun s2 acc c2 mv at2 its => ?_⟩
  rw [Moved.eq_with mv]
  refine fin s2.heap s2.toks acc c2 (fun b o b1 b2 e => mv.heap b o (fun hm => ?_) e) at2 its
  rcases List.mem_cons.mp hm with z | z
  · exact b2 z
  · exact b1 (List.mem_singleton.mp z)
theorem list_of_rev {Q : Value → Shared → Prop} {ri l : Addr} {zs : Array Value} (hh : A.handled = none) (ir : s.heap.IsRevIter ri l ((zs.size : Int) - 1)) (il : s.heap.IsList l zs) (hne : l ≠ ri) (hz : zs.size ≤ sizeLine)
    (fin : ∀ (g : Heap) (tk : Nat) (acc : Array Value) (c : Nat), (∀ b o, b ≠ ri → s.heap.get? b = some o → g.get? b = some o) → g.get? s.heap.objs.size = some { cls := .type "list", data := .seq acc c } → ItemsOf (fun i v => zs[zs.size - 1 - i]? = some v) acc zs.size → Q (.ref s.heap.objs.size) { s with heap := g, toks := tk }) :
    wpAny (model prog w) A (call (.type "list") [.ref ri]) Q E s := by
  refine callType_codes (Q₁ := fun u sA => u = .ref s.heap.objs.size ∧ sA = { s with heap := s.heap.push { cls := .type "list", data := .seq #[] } }) F.called_list (F.typeCall_list_1 _) F.entry_list_init (code_list_new _ ⟨rfl, rfl⟩) fun u sA hA => ?_
  obtain ⟨rfl, rfl⟩ := hA
  have at0 : (s.heap.push { cls := .type "list", data := .seq #[] }).get? s.heap.objs.size = some { cls := .type "list", data := .seq #[] } := Heap.get?_push_size _ rfl
  refine ⟨⟨_, at0, rfl⟩, F.args_list_init_2 _ _, ?_⟩
  obtain ⟨oi, hoi, _⟩ := id ir
  obtain ⟨ol, hol, _⟩ := id il
  have Si : s.heap.objs.size ≠ ri := Nat.ne_of_gt (Heap.lt_size hoi)
  have Sl : s.heap.objs.size ≠ l := Nat.ne_of_gt (Heap.lt_size hol)
  show wpAny _ _ (do let old ← Builtin.List.listItems (.ref s.heap.objs.size); Builtin.List.listUpdate (.ref s.heap.objs.size) (fun _ => #[]); letGo old.toList.reverse; Builtin.List.listExtendWith (.ref s.heap.objs.size) (.ref ri) .none) _ _ _
  apply wpAny_bind
  unfold Builtin.List.listItems
  apply wpAny_bind
  apply wpAny_seqItems at0 rfl
  apply wpAny_pure
  show wpAny _ _ (updateSeq s.heap.objs.size (fun _ => #[]) >>= fun _ => letGo (#[] : Array Value).toList.reverse >>= fun _ => Builtin.List.listExtendWith (.ref s.heap.objs.size) (.ref ri) .none) _ _ _
  apply wpAny_bind
  apply wpAny_updateSeq at0 rfl
  have at1 := Heap.get?_update_self (Obj.mapSeq (fun _ => (#[] : Array Value))) at0 rfl
  have up : ∀ b o, b ≠ s.heap.objs.size → s.heap.get? b = some o → ((s.heap.push { cls := .type "list", data := .seq #[] }).update s.heap.objs.size (Obj.mapSeq (fun _ => (#[] : Array Value)))).get? b = some o := fun b o hb e => (Heap.get?_update_other _ _ (Ne.symm hb)).trans (Heap.get?_push_of_some _ e)
  apply wpAny_bind
  apply wpAny_letGo
  refine take_rev (A := A.in1) hh (ir.at fun o e => up _ _ (Ne.symm Si) e) (il.at fun o e => up _ _ (Ne.symm Sl) e) hne hz at1 Si Sl fun g tk acc c kg at2 its => ?_
  exact ⟨rfl, fin g tk acc c (fun b o b1 e => kg b o b1 (Nat.ne_of_lt (Heap.lt_size e)) (up b o (Nat.ne_of_lt (Heap.lt_size e)) e)) at2 its⟩
end
section
open RT
variable {X : Cx}
def tListRev (K : PySem.W.Frag) (te : TE) : TE := fun σ H Q => te σ H fun v H1 => ∃ (a : Addr) (xs : List V), v = .ref a ∧ SqL K H1 a xs ∧ ∀ q, H1 q = none → Q (.ref q) (upd H1 q (.lst xs.reverse))
theorem pe_listRev {e : Expr} {te : TE} {p p2 pos pos2 : Pos} (hc : X.calm = true) (hg : Gl X "list") (hm : X.mg "list" = none) (hg2 : Gl X "reversed") (hm2 : X.mg "reversed" = none) (he : PE X e te)
    (s1 : starEach [e] X.env = (false, eval e X.env) :: starEach [] X.env := by rfl)
    (s2 : starEach [.Call (.Name "reversed" p2) [e] [] pos2] X.env = (false, eval (.Call (.Name "reversed" p2) [e] [] pos2) X.env) :: starEach [] X.env := by rfl) :
    PE X (.Call (.Name "list" p) [.Call (.Name "reversed" p2) [e] [] pos2] [] pos) (tListRev X.K te) := by
  refine ⟨fun pins s σ H Q I h => ?_⟩
  refine Call_ (ld_blt I hg hm boot_list (PyProof.Rows.callWith_type1 (args_cons (Call_ (ld_blt I hg2 hm2 PyProof.Rows.boot_reversed (PyProof.Rows.callWith_type1 (args_cons (thn (he.run pins s σ H _ I h) fun u sA ⟨v, H1, I1, r1, q1⟩ => args_nil ?_) s1) s1 rfl))) s2) s2 rfl))
  obtain ⟨a, xs, rfl, hq, q⟩ := q1
  obtain rfl : u = Value.ref a := r1
  obtain ⟨its, rv, pl, hz⟩ := I1.list hq
  refine call_reversed_list pl.isList (args_nil ?_)
  have k0 : ∀ b o, sA.heap.get? b = some o → (sA.heap.push (revObj a ((its.toArray.size : Int) - 1))).get? b = some o := fun b o z => Heap.get?_push_of_some _ z
  have I2 : Inv X pins σ H1 { sA with heap := sA.heap.push (revObj a ((its.toArray.size : Int) - 1)) } := I1.kept (t' := sA.toks) k0
  have hl := pl.isList
  obtain ⟨ol, hol, _⟩ := id hl
  have hz2 : its.toArray.size ≤ sizeLine := by rw [List.size_toArray, ← rv.length]; exact hz
  refine list_of_rev (s := { sA with heap := sA.heap.push (revObj a ((its.toArray.size : Int) - 1)) }) (I1.ok.hd hc) ⟨_, Heap.get?_push_size _ rfl, rfl, rfl⟩ (hl.push _) (Nat.ne_of_lt (Heap.lt_size hol)) hz2 fun g tk acc c kg at2 hi => ?_
  have fr : H1 (sA.heap.push (revObj a ((its.toArray.size : Int) - 1))).objs.size = none := I2.hok.fresh (Nat.le_refl _)
  have nS : sA.heap.objs.size ≠ (sA.heap.push (revObj a ((its.toArray.size : Int) - 1))).objs.size := by
    rw [Heap.size_push]
    omega
  have hlen : xs.reverse.length ≤ sizeLine := by rw [List.length_reverse]; exact hz
  have midS : ((sA.heap.push (revObj a ((its.toArray.size : Int) - 1))).push { cls := .type "list", data := .seq acc c }).get? (sA.heap.push (revObj a ((its.toArray.size : Int) - 1))).objs.size = some { cls := .type "list", data := .seq acc c } := Heap.get?_push_size _ rfl
  have I3 : Inv X pins σ (upd H1 (sA.heap.push (revObj a ((its.toArray.size : Int) - 1))).objs.size (.lst xs.reverse)) { sA with heap := (sA.heap.push (revObj a ((its.toArray.size : Int) - 1))).push { cls := .type "list", data := .seq acc c }, toks := tk } :=
    I2.laid (t' := tk) (fun b o z => Heap.get?_push_of_some _ z) (Nat.le_refl _) ⟨hlen, acc.toList, c, vals_rev rv hi, by rw [Array.toArray_toList]; exact midS⟩
  obtain ⟨f0, f1, f2, f3, f4, f5⟩ := I1.fpOk (H' := upd H1 (sA.heap.push (revObj a ((its.toArray.size : Int) - 1))).objs.size (.lst xs.reverse)) (b := sA.heap.objs.size) (Nat.le_refl _) (by rw [upd_ne nS]; exact I1.hok.fresh (Nat.le_refl _))
  have I4 : Inv X pins σ (upd H1 (sA.heap.push (revObj a ((its.toArray.size : Int) - 1))).objs.size (.lst xs.reverse)) { sA with heap := g, toks := tk } := by
    refine Inv.turned (s := { sA with heap := (sA.heap.push (revObj a ((its.toArray.size : Int) - 1))).push { cls := .type "list", data := .seq acc c }, toks := tk }) (t' := tk) (it := sA.heap.objs.size) I3 (fun b o hb z => ?_) f0 f1 f3 f4 f5
    by_cases hS : b = (sA.heap.push (revObj a ((its.toArray.size : Int) - 1))).objs.size
    · subst hS
      rw [midS] at z
      rw [← z]
      exact at2
    · refine kg b o hb ?_
      rcases Heap.get?_push_cases z with ⟨w1, _⟩ | w
      · exact absurd w1 hS
      · exact w
  exact ⟨.ref _, _, I4, rfl, q _ fr⟩
theorem el_rev {K : PySem.W.Frag} {σ : L2.St} {H : Hp} {ta : TE} {xs : List V} (h : EvS K ta σ H xs) : EvL (tListRev K ta) σ H xs.reverse := fun H1 e Q q =>
  h H1 e _ fun a H2 e2 hq => ⟨a, xs, rfl, hq, fun p hp => q p _ (fresh_back e2 hp) (e2.trans (Ex.new hp)) upd_same⟩
end
/-! ### len(set(xs)) of ints -/
section
open RZ
/-- how many different ones -/
def kinds (ns : List Int) : Nat := (PyProof.Rows.firstMet (fun i => ns.getD i 0) ns.length).length
theorem kinds_nodup {ns : List Int} (h : ns.Nodup) : kinds ns = ns.length := by
  unfold kinds
  rw [firstMet_nodup h ns.length (Nat.le_refl _), List.take_length]
def tLenSet (K : PySem.W.Frag) (ta : TE) : TE := fun σ H Q => ta σ H fun x H1 => ∃ (l : Addr) (ns : List Int), x = .ref l ∧ SqL K H1 l (ns.map V.int) ∧ ns.length ≤ 4000 ∧ Q (.int (kinds ns : Nat)) H1
theorem pe_lenSet {X : Cx} {a : Expr} {ta : TE} {p p2 q pos : Pos} (hc : X.calm = true) (hg : Gl X "len") (hm : X.mg "len" = none) (hg2 : Gl X "set") (hm2 : X.mg "set" = none) (ha : PE X a ta)
    (na : starEach [a] X.env = (false, eval a X.env) :: starEach [] X.env := by rfl) : PE X (.Call (.Name "len" p) [.Call (.Name "set" p2) [a] [] q] [] pos) (tLenSet X.K ta) := by
  refine ⟨fun pins s σ H Q I h => Call_ (ld_blt I hg hm boot_len (PyProof.Rows.callWith_builtin1 (PyProof.Rows.args_cons (Call_ (ld_blt I hg2 hm2 boot_set (PyProof.Rows.callWith_type1 (PyProof.Rows.args_cons (thn (ha.run pins s σ H _ I h) fun v sA ⟨x, H1, I1, r1, q1⟩ => PyProof.Rows.args_nil ?_) na) na rfl))) rfl) rfl rfl))⟩
  obtain ⟨l, ns, rfl, hq, hl, q1⟩ := q1
  cases r1
  obtain ⟨its, r, pl, hz⟩ := I1.list hq
  have hlen : its.toArray.size = ns.length := by rw [List.size_toArray, ← r.length, List.length_map]
  have hfl := PyProof.Rows.firstMet_length_le (fun i => ns.getD i 0) ns.length
  refine call_set_list (I1.ok.hd hc) pl.isList (by simpa using intsAre_vals r) (by rw [hlen]; unfold scanBound; omega) fun g tk hS hk => PyProof.Rows.args_nil ?_
  rw [hlen] at hS
  obtain ⟨o, es, ep, t, ho, hex, hd, _, _, _, hf, hn⟩ := hS
  have I2 : Inv X pins σ H1 { sA with heap := g, toks := tk } := I1.kept fun b o e => hk b o (Heap.lt_size e) e
  exact call_len_set ho hex hd hf (by rw [hn] <;> omega) ⟨.int (kinds ns : Nat), H1, I2.tok _, ⟨_, by rw [hn]; rfl⟩, q1⟩
theorem ev_lenSet {K : PySem.W.Frag} {σ : L2.St} {H : Hp} {ta : TE} {ns : List Int} (h : EvS K ta σ H (ns.map V.int)) (hl : ns.length ≤ 4000) : Ev (tLenSet K ta) σ H (.int (kinds ns : Nat)) := fun H1 e Q q =>
  h H1 e _ fun a H2 e2 hq => ⟨a, ns, rfl, hq, hl, q H2 e2⟩
end
/-! ### sorted(range(n), key=lambda k: (k + 1) * (1 + cell % 12) % 13), the lambda made here: a new list, some arrangement -/
section
open PySem.W PySem.Calls LamX
variable {prog : Program} {w : World} {A : Around} {E : Value → Shared → Prop} {s : Shared}
def keyF (c x : Int) : Int := ((x + 1) * (1 + c.fmod 12)).fmod 13
theorem fmod12 (c : Int) : 0 ≤ c.fmod 12 ∧ c.fmod 12 < 12 := by
  rw [Int.fmod_eq_emod_of_nonneg c (by decide)]
  exact ⟨Int.emod_nonneg _ (by decide), Int.emod_lt_of_pos _ (by decide)⟩
abbrev keyE (p1 p2 p3 p4 p5 p6 p7 p8 p9 p10 p11 : Pos) (j1 j2 j3 j4 : Nat) : Expr :=
  .BinOp (.BinOp (.BinOp (.Name "_law_k" p1) .Add (.Constant (.int 1) j1 p2) p3) .Mult (.BinOp (.Constant (.int 1) j2 p4) .Add (.BinOp (.Name "_law_cell" p5) .Mod (.Constant (.int 12) j3 p6) p7) p8) p9) .Mod (.Constant (.int 13) j4 p10) p11
theorem key_body {env : Env} {m : Str → Option Value} {c x : Int} {t tc : Tok} {cl : Addr} {Q : Value → Shared → Prop} {p1 p2 p3 p4 p5 p6 p7 p8 p9 p10 p11 : Pos} {j1 j2 j3 j4 : Nat} (hk : env.scope.kind = .function) (hkx : env.kindOf "_law_k" = some .local) (hkc : env.kindOf "_law_cell" = some .free)
    (hn : s.heap.Ns env.locals m) (hx : m "_law_k" = some (.int x t)) (hc : env.cells.lookup ("_law_cell" : Str) = some cl) (hv : s.heap.IsCell cl (some (.int c tc))) (h : ∀ t' tk, Q (.int (keyF c x) t') { s with toks := tk }) :
    wpAny (model prog w) A (eval (keyE p1 p2 p3 p4 p5 p6 p7 p8 p9 p10 p11 j1 j2 j3 j4) env) Q E s := by
  refine wpAny_BinOp ?_
  refine wpAny_BinOp ?_
  refine wpAny_BinOp ?_
  refine wpAny_Name (wpAny_loadName_local hk hkx hn hx ?_)
  refine wpAny_Constant_int ?_
  refine PyProof.Rows.add_int ?_
  refine wpAny_BinOp ?_
  refine wpAny_Constant_int ?_
  refine wpAny_BinOp ?_
  refine wpAny_Name (wpAny_loadName_free hk hkc hc hv ?_)
  refine wpAny_Constant_int ?_
  refine PyProof.Rows.mod_int (by decide) ?_
  refine PyProof.Rows.add_int ?_
  refine mul_int ?_ (CMul.ok (.inr ?_))
  · refine wpAny_Constant_int ?_
    exact PyProof.Rows.mod_int (by decide) (h _ _)
  · have := fmod12 c
    omega
/-- the call of such a lambda -/
theorem key_call {f c' cl : Addr} {pm ctv : Value} {params : Arguments} {scope : Scope} {cells : List (Str × Addr)} {qual : Str} {c x : Int} {t tc : Tok} {p1 p2 p3 p4 p5 p6 p7 p8 p9 p10 p11 : Pos} {j1 j2 j3 j4 : Nat}
    (hroom : A.depth < recursionLimit) (hlim : s.heap.NoLimit) (hf : s.heap.get? f = some (kla_obj "<lambda>" qual params (keyE p1 p2 p3 p4 p5 p6 p7 p8 p9 p10 p11 j1 j2 j3 j4) scope cells pm c' ctv)) (hrec : s.heap.CodeRec (.ref c') qual)
    (hbind : ∀ (u : Value), bindArgs (kla_fn "<lambda>" qual params (keyE p1 p2 p3 p4 p5 p6 p7 p8 p9 p10 p11 j1 j2 j3 j4) scope cells pm (.ref c') ctv) ⟨[u], []⟩ = pure [(("_law_k" : Str), u)])
    (hk : scope.kind = .function) (hco : scope.isCoroutine = false) (hgen : scope.isGenerator = false) (hnc : ∀ y ∈ scope.names, y.2 ≠ .cell) (hlk : scope.names.lookup ("_law_k" : Str) = some .local) (hlc : scope.names.lookup ("_law_cell" : Str) = some .free)
    (hcl : cells.lookup ("_law_cell" : Str) = some cl) (hv : s.heap.IsCell cl (some (.int c tc))) :
    wpAny (model prog w) A (call (.ref f) [.int x t]) (KeyPure (.int (keyF c x)) s) (fun _ _ => False) s := by
  refine wpAny_call (kla_callFunE hroom hf rfl hco hgen rfl hrec ?_)
  rw [hbind]
  refine wpAny_pure (wpAny_newFunctionEnv hnc (fun y hy => ?_) (fun h₁ hns hsb => ⟨hlim.fresh _ hsb, ?_⟩) hk)
  · have : y = (("_law_k" : Str), Value.int x t) := by simpa using hy
    rw [this]
    exact hlk
  have kp : ∀ b o, s.heap.get? b = some o → h₁.get? b = some o := fun b o e => hsb.extBut b o (Nat.ne_of_lt (Heap.lt_size e)) (Heap.get?_push_of_some _ e)
  refine kla_codeExpr ?_
  refine key_body (m := fun y => [(("_law_k" : Str), Value.int x t)].reverse.lookup y) (c := c) (x := x) (t := t) (tc := tc) (cl := cl) hk hlk hlc hns ?_ hcl ?_ fun t' tk => ?_
  · rfl
  · obtain ⟨o, ho, hd⟩ := hv
    exact ⟨o, kp _ _ ho, hd⟩
  · exact ⟨h₁, tk, rfl, kp, Reads.int _ _⟩
end
section
variable {X : Cx}
theorem cr_range1 : CallR X (.type "range") (fun vs H Q => ∃ j, vs = [V.int j] ∧ ∀ p, H p = none → Q (.ref p) (upd H p (.rng 0 j))) := by
  intro pins s σ H vs us Q I r h
  obtain ⟨j, rfl, q⟩ := h
  cases r with
  | cons r1 r2 =>
    cases r2
    obtain ⟨t, rfl⟩ := r1
    refine call_range_1 ⟨.ref s.heap.objs.size, upd H s.heap.objs.size (.rng 0 j), I.laid (t' := s.toks + 1 + 1) (fun b o e => Heap.get?_push_of_some _ e) (Nat.le_refl _) ?_, rfl, q _ (I.hok.fresh (Nat.le_refl _))⟩
    exact ⟨_, _, _, Heap.get?_push_size _ rfl⟩
end
section
open PySem.W PySem.Calls LamX
variable {X : Cx}
def tSortLam (T : List (Addr × Str)) (ic : Nat) (te : TE) : TE := fun σ H Q => te σ H fun x H1 => ∃ (r : Addr) (n c : Int), x = .ref r ∧ H1 r = some (.rng 0 n) ∧ 0 ≤ n ∧ n ≤ 1000 ∧ σ[ic]? = some (some (.int c)) ∧ Tabs T H1 ∧
  ∀ (os : List Int) (p : Addr) (H2 : Hp), ExtN H1 H2 → os.Perm ((List.range n.toNat).map Int.ofNat) → H2 p = none → Q (.ref p) (upd H2 p (.lst (os.map V.int)))
theorem each_ints : ∀ {vs : List Value} {ns : List Int}, Vals (ns.map V.int) vs → EachIs (fun (v : Value) (x : Int) => ∃ t, v = .int x t) vs ns
  | [], [], _ => .nil
  | v :: vs, n :: ns, h => by
    cases h with
    | cons r t => exact .cons r (each_ints t)
  | [], _ :: _, h => by cases h
  | _ :: _, [], h => by cases h
theorem vals_each : ∀ {vs : List Value} {ns : List Int}, EachIs (fun (v : Value) (x : Int) => ∃ t, v = .int x t) vs ns → Vals (ns.map V.int) vs
  | _, _, .nil => .nil
  | _, _, .cons r t => .cons r (vals_each t)
theorem pe_sortedLam {T : List (Addr × Str)} {c0 P0 : Addr} {e : Expr} {te : TE} {params : Arguments} {scope : Scope} {ic k : Nat} {p0 lpos kpos pos : Pos} {p1 p2 p3 p4 p5 p6 p7 p8 p9 p10 p11 : Pos} {j1 j2 j3 j4 : Nat} (hc : X.calm = true) (hg : Gl X "sorted") (hm : X.mg "sorted" = none)
    (TB : TabB X.base X.mg c0 P0) (hcode : X.env.code = .ref c0) (hmT : (P0, X.env.qual ++ "<lambda>") ∈ T) (hu : ∀ p ∈ T, p.1 = P0 → p.2 = X.env.qual ++ "<lambda>") (hdef : defaultsOf params X.env = ([], []))
    (hfree : ∀ y ∈ scope.names, y.2 = .free → X.env.scope.names.lookup y.1 = some .cell ∨ X.env.scope.names.lookup y.1 = some .free)
    (hbind : ∀ (q : Str) (cl : List (Str × Addr)) (pm cv ctv u : Value), bindArgs (kla_fn "<lambda>" q params (keyE p1 p2 p3 p4 p5 p6 p7 p8 p9 p10 p11 j1 j2 j3 j4) scope cl pm cv ctv) ⟨[u], []⟩ = pure [(("_law_k" : Str), u)])
    (hk : scope.kind = .function) (hco : scope.isCoroutine = false) (hgen : scope.isGenerator = false) (hnc : ∀ y ∈ scope.names, y.2 ≠ .cell) (hlk : scope.names.lookup ("_law_k" : Str) = some .local) (hlc : scope.names.lookup ("_law_cell" : Str) = some .free)
    (hkc : X.env.scope.names.lookup ("_law_cell" : Str) = some .cell) (hN : X.N[ic]? = some ("_law_cell" : Str)) (hr : Room (k + 1) X.A) (he : PE X e te)
    (s1 : backTo pos (starEach [e] X.env) = (false, eval e X.env) :: backTo pos (starEach [] X.env) := by rfl) (s2 : (backTo pos (starEach [e] X.env)).any (·.1) = false := by rfl)
    (s3 : starEach [e] X.env = (false, eval e X.env) :: starEach [] X.env := by rfl) :
    PE X (.Call (.Name "sorted" p0) [e] [⟨some "key", .Lambda params (keyE p1 p2 p3 p4 p5 p6 p7 p8 p9 p10 p11 j1 j2 j3 j4) scope lpos, kpos⟩] pos) (tSortLam T ic te) := by
  refine ⟨fun pins s σ H Q I h => ?_⟩
  have hfr : ∀ y ∈ scope.names, y.2 = .free → ∃ c, X.env.cells.lookup y.1 = some c := fun y hy e => (hfree y hy e).elim (fun z => I.ok.has _ (.inl z)) fun z => I.ok.has _ (.inr z)
  refine wpAny_Call_Name_kw (ld_blt I hg hm (show bootBuiltins "sorted" = some (.builtin "sorted") by decide +kernel) ?_)
  refine PyProof.Rows.callWith_kw ?_ s1 s2 rfl rfl
  refine args_cons (thn (he.run pins s σ H _ I h) fun u sA ⟨x, H1, I1, r1, q1⟩ => args_nil ?_) s3
  obtain ⟨r, n, c, rfl, hrng, hn0, hn1, hσ, hT, q⟩ := q1
  obtain rfl : u = Value.ref r := r1
  show wpAny _ _ (evalAll [do let v ← eval (.Lambda params (keyE p1 p2 p3 p4 p5 p6 p7 p8 p9 p10 p11 j1 j2 j3 j4) scope lpos) X.env; standAt pos; pure v]) _ _ sA
  refine wpAny_evalAll_cons (wpAny_bind (lam_make2 I1 TB hcode hmT hu hT hdef hfr fun f c' pm ctv H2 sB I2 eN T2 hf hfn hfrs hcd => wpAny_bind (wpAny_standAt (wpAny_pure (wpAny_evalAll_nil ?_)))))
  show wpAny _ _ (call (.builtin "sorted") [.ref r] [(Str.ofString "key", .ref f)]) _ _ sB
  have hrng2 := eN r _ hrng (fun ps z => by cases z)
  obtain ⟨t1, t2, t3, hro⟩ := I2.hok r _ hrng2
  obtain ⟨⟨oc, fs, tq, hoc, hdc, hvc⟩, _, _⟩ := I2.hok c' _ hcd
  -- the captured cell's value
  obtain ⟨m, hns, hl⟩ := I2.loc
  obtain ⟨cv, rcv, hlook⟩ := hl ic "_law_cell" (.int c) hN hσ (.inr (.inl hkc))
  obtain ⟨tc, rfl⟩ := rcv
  have hcell : ∃ cl, X.env.cells.lookup ("_law_cell" : Str) = some cl ∧ sB.heap.IsCell cl (some (.int c tc)) := by
    rcases hlook with ⟨z, _⟩ | ⟨_, cl, h1, h2⟩
    · have z' : X.env.scope.names.lookup ("_law_cell" : Str) = some .local := z
      rw [hkc] at z'
      cases z'
    · exact ⟨cl, h1, h2⟩
  obtain ⟨cl, hcl, hcv⟩ := hcell
  have hclo : (cloFrom X.env.cells scope.names []).lookup ("_law_cell" : Str) = some cl := by
    have hy : (("_law_cell" : Str), NameKind.free) ∈ scope.names := PySem.mem_of_lookup hlc
    obtain ⟨c2, h2⟩ := mem_lookup (cloFrom_has (cells := X.env.cells) (acc := []) hy)
    rcases cloFrom_mem (PySem.mem_of_lookup h2) with z | ⟨_, z⟩
    · cases z
    · rw [h2, z, hcl]
      rfl
  refine call_function_entry_kw PyProof.Rows.kind_sorted PyProof.Rows.plain_sorted PyProof.Rows.entry_sorted (PyProof.Rows.ksk_s1 _ _) ?_
  unfold Builtin.«sorted»
  refine wpAny_bind (m := checkCount "sorted" 1 1 _) (wpAny_pure ?_)
  have hR : IsRange sB.heap r 0 n 1 t1 t2 t3 := hro
  refine wpAny_bind (collect_range (n := (n - 0).toNat) (show X.A.in1.handled = none from I2.ok.hd hc) hR (small_one (by omega) (by omega) (by omega) (by omega)) (rangeSize_nat 0 n) (by omega) fun h' tk acc hkp hi => ?_)
  have hV : Vals (((List.range n.toNat).map Int.ofNat).map V.int) acc.toList := by
    have z := vals_rg hi
    have e2 : rgV 0 n = ((List.range n.toNat).map Int.ofNat).map V.int := by
      unfold rgV
      rw [List.map_map, Int.sub_zero]
      refine List.map_congr_left fun i _ => ?_
      show V.int (0 + (i : Int)) = V.int (i : Int)
      rw [Int.zero_add]
    rw [e2] at z
    exact z
  have hlen : acc.toList.length = n.toNat := by rw [← hV.length]; simp
  have hz : acc.toList.length ≤ sizeLine := by rw [hlen, sizeLine_eq]; omega
  refine wpAny_bind (wpAny_newList ?_ hz)
  have keep0 : ∀ b o, sB.heap.get? b = some o → (h'.push { cls := .type "list", data := .seq acc.toList.toArray }).get? b = some o := fun b o e => Heap.get?_push_of_some _ (hkp b o e)
  refine wpAny_bind (wpAny_holding (PyProof.Rows.wpAny_call_entry_kw PyProof.Rows.slot_list_sort ⟨_, Heap.get?_push_size _ rfl, rfl⟩ PyProof.Rows.entry_list_sort ?body (PyProof.Rows.ksk_l1 _ _)))
  case body =>
    rw [PyProof.Rows.ksk_t1]
    refine wpAny_mono (keyH_tree (s := { sB with heap := h'.push { cls := .type "list", data := .seq acc.toList.toArray }, toks := tk }) (b := false) (vs := acc.toList) (kz := ((List.range n.toNat).map Int.ofNat).map fun x => PyData.int (keyF c x)) (Heap.get?_push_size _ rfl) (by rw [hlen]; simp) hz ?al ?so ?un
      (keyH_turns (k := fun x => PyData.int (keyF c x)) (R := fun (v : Value) (x : Int) => ∃ t, v = .int x t) (each_ints hV) fun v x hvx hx h2 tk2 kp => ?turn) fun h3 tk3 out cc kp hD ko => ?fin) (fun f s h => h) fun _ _ h => h
    case al =>
      intro d hd d' hd'
      obtain ⟨x, _, rfl⟩ := List.mem_map.mp hd
      obtain ⟨y, _, rfl⟩ := List.mem_map.mp hd'
      rfl
    case so =>
      refine .inr fun d hd => ?_
      obtain ⟨x, _, rfl⟩ := List.mem_map.mp hd
      exact ⟨fun z => PyData.noConfusion z, fun xs z => PyData.noConfusion z⟩
    case un =>
      intro d hd
      obtain ⟨x, _, rfl⟩ := List.mem_map.mp hd
      have := hr.un
      show X.A.units + 1 + 1 + PyData.depth (.int _) < cLine
      have e : PyData.depth (.int (keyF c x)) = 0 := by rfl
      omega
    case turn =>
      obtain ⟨t, rfl⟩ := hvx
      have kpo : ∀ b o, sB.heap.get? b = some o → h2.get? b = some o := fun b o e => kp b o (Nat.ne_of_lt (Heap.lt_size (hkp b o e))) (keep0 b o e)
      refine key_call (cl := cl) (tc := tc) (by have := hr.dp; show X.A.depth < _; omega) (I2.nolimit.keeps kpo) (kpo _ _ hf) ⟨c', oc, fs, tq, rfl, kpo _ _ hoc, hdc, hvc⟩ (fun u => hbind _ _ _ _ _ u) hk hco hgen hnc hlk hlc hclo ?_
      obtain ⟨o, ho, hd⟩ := hcv
      exact ⟨o, kpo _ _ ho, hd⟩
    case fin =>
      have I3 : Inv X pins σ H2 { sB with heap := h', toks := tk } := I2.kept hkp
      have hE := keyedOut_each (fun x => PyData.int (keyF c x)) ko (each_ints hV)
      have hP : (((List.range n.toNat).map Int.ofNat).mergeSort (dataLe false fun x => PyData.int (keyF c x))).Perm ((List.range n.toNat).map Int.ofNat) := List.mergeSort_perm _ _
      have hol : out.length = n.toNat := by rw [hE.length, hP.length_eq]; simp
      have fresh : H2 h'.objs.size = none := I3.hok.fresh (Nat.le_refl _)
      refine ⟨_, rfl, wpAny_pure ⟨_, rfl, .ref h'.objs.size, upd H2 h'.objs.size (.lst ((((List.range n.toNat).map Int.ofNat).mergeSort (dataLe false fun x => PyData.int (keyF c x))).map V.int)), I3.laid (t' := tk3) (fun b o e => kp b o (Nat.ne_of_lt (Heap.lt_size e)) (Heap.get?_push_of_some _ e)) (Nat.le_refl _) ⟨?_, out, cc, vals_each hE, hD⟩, rfl, q _ _ H2 eN hP fresh⟩⟩
      rw [List.length_map, hP.length_eq, List.length_map, List.length_range, sizeLine_eq]
      omega
end
def top (i : Nat) : Stmt := PySem.Challenge.pw_meanpace_k04_webs_refused.main.body.getD i (.Pass ⟨0, 0, 0, 0⟩)
/-- what an own class of exceptions tells: D it, B the one that the clause names -/
structure ExcAt (K : PySem.W.Frag) (D B : Addr) : Prop where
  x : PySem.W.excIn K D He.veBase "ValueError.__new__" = true
  k : PySem.W.keepIn K (.ref D) = true
  b : PySem.W.subIn K (.ref D) (.type "BaseException") = some true
  t : PySem.W.typeIn K (.ref D) = some (.type "type")
  m : PySem.W.exmOne K (.ref D) (.ref B) = some true
  v : PySem.W.kitOne K (.ref D) (.type "ValueError") = some true
  c : L2.ExcC K D
def KitAt (K : PySem.W.Frag) (D : Addr) (l : List (Addr × Bool)) : Prop := ∀ q ∈ l, PySem.W.kitOne K (.ref D) (.ref q.1) = some q.2
def excB (K : PySem.W.Frag) (D B : Addr) : Bool :=
  PySem.W.excIn K D He.veBase "ValueError.__new__" && (PySem.W.keepIn K (.ref D) && (decide (PySem.W.subIn K (.ref D) (.type "BaseException") = some true) && (decide (PySem.W.typeIn K (.ref D) = some (.type "type")) && (decide (PySem.W.exmOne K (.ref D) (.ref B) = some true) &&
  (decide (PySem.W.kitOne K (.ref D) (.type "ValueError") = some true) && (He.eqO (PySem.W.findIn K (.ref D) "__getattribute__") (some (some (.builtin "BaseException.__getattribute__"))) && (He.eqO (PySem.W.findIn K (.ref D) "__getattr__") (some none) && (PySem.W.hasDictIn K D &&
  (He.eqO (PySem.W.findIn K (.ref D) "__class__") (some (some (.builtin "object.__class__"))) && (He.eqO (PySem.W.specialIn K (.builtin "object.__class__") "__get__") (some (some (.builtin "getset_descriptor.__get__"))) &&
  (decide (PySem.W.takesIn K (.builtin "object.__class__") = some true) && decide (PySem.W.mroIn K D (.type "object") = some true))))))))))))
theorem excB_ok {K : PySem.W.Frag} {D B : Addr} (h : excB K D B = true) : ExcAt K D B := by
  obtain ⟨h1, h⟩ := He.ba h
  obtain ⟨h2, h⟩ := He.ba h
  obtain ⟨h3, h⟩ := He.ba h
  obtain ⟨h4, h⟩ := He.ba h
  obtain ⟨h5, h⟩ := He.ba h
  obtain ⟨h6, h⟩ := He.ba h
  obtain ⟨h7, h⟩ := He.ba h
  obtain ⟨h8, h⟩ := He.ba h
  obtain ⟨h9, h⟩ := He.ba h
  obtain ⟨h10, h⟩ := He.ba h
  obtain ⟨h11, h⟩ := He.ba h
  obtain ⟨h12, h13⟩ := He.ba h
  exact ⟨h1, h2, of_decide_eq_true h3, of_decide_eq_true h4, of_decide_eq_true h5, of_decide_eq_true h6, ⟨He.eqO_ok h7, He.eqO_ok h8, of_decide_eq_true h3, h9, He.eqO_ok h10, He.eqO_ok h11, of_decide_eq_true h12, of_decide_eq_true h13⟩⟩
def kitB1 (K : PySem.W.Frag) (D : Addr) (l : List (Addr × Bool)) : Bool := l.all fun q => decide (PySem.W.kitOne K (.ref D) (.ref q.1) = some q.2)
theorem kitB_ok {K : PySem.W.Frag} {D : Addr} {l : List (Addr × Bool)} (h : kitB1 K D l = true) : KitAt K D l := fun q hq => of_decide_eq_true (List.all_eq_true.mp h q hq)

structure Txt (K : PySem.W.Frag) (mg : Str → Option Value) where
  n_ValueError : mg "ValueError" = none
  n_isinstance : mg "isinstance" = none
  n_len : mg "len" = none
  n_list : mg "list" = none
  n_max : mg "max" = none
  n_range : mg "range" = none
  n_sorted : mg "sorted" = none
  g_MOST_MEETINGS : ∃ t, mg "MOST_MEETINGS" = some (.int 12 t)
  g_MOST_WAYS : ∃ t, mg "MOST_WAYS" = some (.int 60 t)
  g_GREATEST : ∃ t, mg "GREATEST" = some (.int 9999 t)
  a_PaceError : Addr
  g_PaceError : mg "PaceError" = some (.ref a_PaceError)
  a_BadCount : Addr
  g_BadCount : mg "BadCount" = some (.ref a_BadCount)
  a_NoMeeting : Addr
  g_NoMeeting : mg "NoMeeting" = some (.ref a_NoMeeting)
  a_BadDelay : Addr
  g_BadDelay : mg "BadDelay" = some (.ref a_BadDelay)
  a_Apart : Addr
  g_Apart : mg "Apart" = some (.ref a_Apart)
  a_NoRing : Addr
  g_NoRing : mg "NoRing" = some (.ref a_NoRing)
  a_BadPace : Addr
  g_BadPace : mg "BadPace" = some (.ref a_BadPace)
  a_Web : Addr
  g_Web : mg "Web" = some (.ref a_Web)
  a_wall : Addr
  d_wall : FuncData
  F_wall : FunD K "_wall" "_wall" (defArgs (top 0)) (defBody (top 0)) (defScope (top 0)) [] [] a_wall d_wall
  b_wall : Binds K d_wall ["k"] []
  g_wall : mg "_wall" = some (.ref a_wall)
  a_come_to : Addr
  d_come_to : FuncData
  F_come_to : FunD K "come_to" "come_to" (defArgs (top 13)) (defBody (top 13)) (defScope (top 13)) [] [] a_come_to d_come_to
  b_come_to : Binds K d_come_to ["many", "pairs"] []
  g_come_to : mg "come_to" = some (.ref a_come_to)
  a_Web_init : Addr
  d_Web_init : FuncData
  F_Web_init : FunD K "__init__" "Web.__init__" (defArgs (inClass (top 14) 0)) (defBody (inClass (top 14) 0)) (defScope (inClass (top 14) 0)) [] [] a_Web_init d_Web_init
  b_Web_init : Binds K d_Web_init ["self", "many", "ways"] []
  a_Web_need_meeting : Addr
  d_Web_need_meeting : FuncData
  F_Web_need_meeting : FunD K "need_meeting" "Web.need_meeting" (defArgs (inClass (top 14) 1)) (defBody (inClass (top 14) 1)) (defScope (inClass (top 14) 1)) [] [] a_Web_need_meeting d_Web_need_meeting
  b_Web_need_meeting : Binds K d_Web_need_meeting ["self", "meeting"] []
  m_Web_need_meeting : Meth K a_Web "need_meeting" a_Web_need_meeting
  a_Web_into : Addr
  d_Web_into : FuncData
  F_Web_into : FunD K "into" "Web.into" (defArgs (inClass (top 14) 2)) (defBody (inClass (top 14) 2)) (defScope (inClass (top 14) 2)) [] [] a_Web_into d_Web_into
  b_Web_into : Binds K d_Web_into ["self", "meeting"] []
  m_Web_into : Meth K a_Web "into" a_Web_into
  a_Web_delay : Addr
  d_Web_delay : FuncData
  F_Web_delay : FunD K "delay" "Web.delay" (defArgs (inClass (top 14) 3)) (defBody (inClass (top 14) 3)) (defScope (inClass (top 14) 3)) [] [] a_Web_delay d_Web_delay
  b_Web_delay : Binds K d_Web_delay ["self", "one", "other"] []
  m_Web_delay : Meth K a_Web "delay" a_Web_delay
  a_Web_ahead : Addr
  d_Web_ahead : FuncData
  F_Web_ahead : FunD K "ahead" "Web.ahead" (defArgs (inClass (top 14) 4)) (defBody (inClass (top 14) 4)) (defScope (inClass (top 14) 4)) [] [] a_Web_ahead d_Web_ahead
  b_Web_ahead : Binds K d_Web_ahead ["self", "times"] []
  m_Web_ahead : Meth K a_Web "ahead" a_Web_ahead
  a_Web_turns : Addr
  d_Web_turns : FuncData
  F_Web_turns : FunD K "turns" "Web.turns" (defArgs (inClass (top 14) 5)) (defBody (inClass (top 14) 5)) (defScope (inClass (top 14) 5)) [] [] a_Web_turns d_Web_turns
  b_Web_turns : Binds K d_Web_turns ["self", "times", "count"] []
  m_Web_turns : Meth K a_Web "turns" a_Web_turns
  a_Web_turned : Addr
  d_Web_turned : FuncData
  F_Web_turned : FunD K "turned" "Web.turned" (defArgs (inClass (top 14) 6)) (defBody (inClass (top 14) 6)) (defScope (inClass (top 14) 6)) [] [] a_Web_turned d_Web_turned
  b_Web_turned : Binds K d_Web_turned ["self"] []
  m_Web_turned : Meth K a_Web "turned" a_Web_turned
  a_law_cell_at : Addr
  d_law_cell_at : FuncData
  F_law_cell_at : FunD K "_law_cell_at" "_law_cell_at" (defArgs (top 16)) (defBody (top 16)) (defScope (top 16)) [] [] a_law_cell_at d_law_cell_at
  b_law_cell_at : Binds K d_law_cell_at ["_law_script", "_law_k"] []
  g_law_cell_at : mg "_law_cell_at" = some (.ref a_law_cell_at)
  a_law_mixed : Addr
  d_law_mixed : FuncData
  F_law_mixed : FunD K "_law_mixed" "_law_mixed" (defArgs (top 17)) (defBody (top 17)) (defScope (top 17)) [] [] a_law_mixed d_law_mixed
  b_law_mixed : Binds K d_law_mixed ["_law_cell", "_law_k"] []
  g_law_mixed : mg "_law_mixed" = some (.ref a_law_mixed)
  a_law_delay_by : Addr
  d_law_delay_by : FuncData
  F_law_delay_by : FunD K "_law_delay_by" "_law_delay_by" (defArgs (top 18)) (defBody (top 18)) (defScope (top 18)) [] [] a_law_delay_by d_law_delay_by
  b_law_delay_by : Binds K d_law_delay_by ["_law_number"] []
  g_law_delay_by : mg "_law_delay_by" = some (.ref a_law_delay_by)
  a_law_many : Addr
  d_law_many : FuncData
  F_law_many : FunD K "_law_many" "_law_many" (defArgs (top 19)) (defBody (top 19)) (defScope (top 19)) [] [] a_law_many d_law_many
  b_law_many : Binds K d_law_many ["_law_script"] []
  g_law_many : mg "_law_many" = some (.ref a_law_many)
  a_law_ways : Addr
  d_law_ways : FuncData
  F_law_ways : FunD K "_law_ways" "_law_ways" (defArgs (top 20)) (defBody (top 20)) (defScope (top 20)) [] [] a_law_ways d_law_ways
  b_law_ways : Binds K d_law_ways ["_law_script", "_law_many_here"] []
  g_law_ways : mg "_law_ways" = some (.ref a_law_ways)
  a_law_bent : Addr
  d_law_bent : FuncData
  F_law_bent : FunD K "_law_bent" "_law_bent" (defArgs (top 21)) (defBody (top 21)) (defScope (top 21)) [] [] a_law_bent d_law_bent
  b_law_bent : Binds K d_law_bent ["_law_script", "_law_ways_here", "_law_many_here"] []
  g_law_bent : mg "_law_bent" = some (.ref a_law_bent)
  a_law_met : Addr
  d_law_met : FuncData
  F_law_met : FunD K "_law_met" "_law_met" (defArgs (top 22)) (defBody (top 22)) (defScope (top 22)) [] [] a_law_met d_law_met
  b_law_met : Binds K d_law_met ["_law_many_here", "_law_pairs"] []
  g_law_met : mg "_law_met" = some (.ref a_law_met)
  a_law_due : Addr
  d_law_due : FuncData
  F_law_due : FunD K "_law_due" "_law_due" (defArgs (top 23)) (defBody (top 23)) (defScope (top 23)) [] [] a_law_due d_law_due
  b_law_due : Binds K d_law_due ["_law_many_here", "_law_ways_here"] []
  g_law_due : mg "_law_due" = some (.ref a_law_due)
  a_law_word_of : Addr
  d_law_word_of : FuncData
  F_law_word_of : FunD K "_law_word_of" "_law_word_of" (defArgs (top 24)) (defBody (top 24)) (defScope (top 24)) [] [] a_law_word_of d_law_word_of
  b_law_word_of : Binds K d_law_word_of ["_law_error"] []
  g_law_word_of : mg "_law_word_of" = some (.ref a_law_word_of)
  a_law : Addr
  d_law : FuncData
  F_law : FunD K "law" "law" (defArgs (top 25)) (defBody (top 25)) (defScope (top 25)) [] [] a_law d_law
  b_law : Binds K d_law ["_law_script"] []
  g_law : mg "law" = some (.ref a_law)
  c_lw : Addr
  P_lw : Addr
  code_lw : d_law_ways.code = .ref c_lw
  cl_Web : Cls K a_Web
  M_Web : Mk K a_Web a_Web_init
  na_many : NoAttr K a_Web "many"
  na_ways : NoAttr K a_Web "ways"
  na_inner : NoAttr K a_Web "inner"
  X_BadCount : ExcAt K a_BadCount a_PaceError
  kit_BadCount : KitAt K a_BadCount [(a_BadCount, true), (a_NoMeeting, false), (a_BadDelay, false), (a_Apart, false), (a_NoRing, false), (a_BadPace, false)]
  X_NoMeeting : ExcAt K a_NoMeeting a_PaceError
  kit_NoMeeting : KitAt K a_NoMeeting [(a_BadCount, false), (a_NoMeeting, true), (a_BadDelay, false), (a_Apart, false), (a_NoRing, false), (a_BadPace, false)]
  X_BadDelay : ExcAt K a_BadDelay a_PaceError
  kit_BadDelay : KitAt K a_BadDelay [(a_BadCount, false), (a_NoMeeting, false), (a_BadDelay, true), (a_Apart, false), (a_NoRing, false), (a_BadPace, false)]
  X_Apart : ExcAt K a_Apart a_PaceError
  kit_Apart : KitAt K a_Apart [(a_BadCount, false), (a_NoMeeting, false), (a_BadDelay, false), (a_Apart, true), (a_NoRing, false), (a_BadPace, false)]

section
variable {P : Program} {w : World} {K : PySem.W.Frag} {mg : Str → Option Value} {base : Heap}
/-! ### the layer: data that are compared, attributes that are set -/
theorem dp_ints {K : PySem.W.Frag} {H : Hp} : ∀ xs : List Int, DpAll K H (xs.map V.int) (xs.map PyData.int)
  | [] => .nil
  | x :: xs => .cons (.int x) (dp_ints xs)
theorem dp_tups {K : PySem.W.Frag} {H : Hp} {α : Type} (f : α → List Int) : ∀ (vs : List V) (xs : List α), Tups H vs (xs.map fun x => (f x).map V.int) → DpAll K H vs (xs.map fun x => .tuple ((f x).map PyData.int))
  | [], [], _ => .nil
  | v :: vs, x :: xs, h => by
    refine .cons ?_ (dp_tups f vs xs ⟨Nat.succ.inj h.1, fun i y hy => h.2 (i + 1) y hy⟩)
    obtain ⟨p, hp, ht⟩ := h.2 0 _ rfl
    obtain rfl : v = .ref p := by simpa using hp
    exact .tup (st_of ht) (dp_ints (f x))
  | [], _ :: _, h => by have := h.1; simp at this
  | _ :: _, [], h => by have := h.1; simp at this
theorem lay_ints : ∀ xs : List Int, PyData.canLayAll0 (xs.map PyData.int) = true
  | [] => rfl
  | x :: xs => by
    rw [List.map_cons, PyData.canLayAll0, lay_ints xs, PyData.canLay0]
    rfl
theorem depth_ints : ∀ xs : List Int, PyData.depthAll (xs.map PyData.int) ≤ 1
  | [] => by rw [List.map_nil, PyData.depthAll]; omega
  | x :: xs => by
    have := depth_ints xs
    rw [List.map_cons, PyData.depthAll, PyData.depth]
    omega
theorem lay_tups {α : Type} (f : α → List Int) : ∀ xs : List α, PyData.canLayAll0 (xs.map fun x => .tuple ((f x).map PyData.int)) = true
  | [] => rfl
  | x :: xs => by
    rw [List.map_cons, PyData.canLayAll0, lay_tups f xs, PyData.canLay0, lay_ints]
    rfl
theorem depth_tups {α : Type} (f : α → List Int) : ∀ xs : List α, PyData.depthAll (xs.map fun x => .tuple ((f x).map PyData.int)) ≤ 3
  | [] => by rw [List.map_nil, PyData.depthAll]; omega
  | x :: xs => by
    have := depth_tups f xs
    have := depth_ints (f x)
    rw [List.map_cons, PyData.depthAll, PyData.depth]
    omega
theorem shaped_ints (xs : List Int) : SeqAt.shaped (.list (xs.map PyData.int)) = true := by
  unfold SeqAt.shaped
  rw [PyData.canLay0, lay_ints, Bool.true_and, decide_eq_true_iff, PyData.depth]
  have := depth_ints xs
  omega
theorem shaped_intsT (xs : List Int) : SeqAt.shaped (.tuple (xs.map PyData.int)) = true := by
  unfold SeqAt.shaped
  rw [PyData.canLay0, lay_ints, Bool.true_and, decide_eq_true_iff, PyData.depth]
  have := depth_ints xs
  omega
theorem shaped_tups {α : Type} (f : α → List Int) (xs : List α) : SeqAt.shaped (.list (xs.map fun x => .tuple ((f x).map PyData.int))) = true := by
  unfold SeqAt.shaped
  rw [PyData.canLay0, lay_tups, Bool.true_and, decide_eq_true_iff, PyData.depth]
  have := depth_tups f xs
  omega
theorem eqv_ints : ∀ xs ys : List Int, PyData.eqvAll (xs.map PyData.int) (ys.map PyData.int) = decide (xs = ys)
  | [], [] => by simp [PyData.eqvAll]
  | [], y :: ys => by simp [PyData.eqvAll]
  | x :: xs, [] => by simp [PyData.eqvAll]
  | x :: xs, y :: ys => by
    rw [List.map_cons, List.map_cons, PyData.eqvAll, eqv_ints xs ys, PyData.eqv]
    by_cases h : x = y
    · subst h
      simp
    · simp [h]
theorem eqv_tups {α : Type} (f : α → List Int) (hf : ∀ a b, f a = f b → a = b) : ∀ xs ys : List α, PyData.eqvAll (xs.map fun x => .tuple ((f x).map PyData.int)) (ys.map fun x => .tuple ((f x).map PyData.int)) = open Classical in decide (xs = ys)
  | [], [] => by simp [PyData.eqvAll]
  | [], y :: ys => by simp [PyData.eqvAll]
  | x :: xs, [] => by simp [PyData.eqvAll]
  | x :: xs, y :: ys => by
    rw [List.map_cons, List.map_cons, PyData.eqvAll, eqv_tups f hf xs ys, PyData.eqv, eqv_ints]
    by_cases h : x = y
    · subst h
      simp
    · have h2 : ¬ f x = f y := fun z => h (hf _ _ z)
      simp [h, h2]
section
variable {K : PySem.W.Frag} {σ : L2.St} {H H' : Hp} {ta tb te : TE} {D : Ends} {tz : TS} {C : Hp → VK → Prop}
/-- two that read as data: == and != -/
theorem rv_eqD {x y : V} {d e : PyData} (hd : ∀ H1, Ex H H1 → Dp K H1 x d) (he : ∀ H1, Ex H H1 → Dp K H1 y e) (sd : SeqAt.shaped d = true) (se : SeqAt.shaped e = true) : RV (rEqD K) x y H (.bl (PyData.eqv d e)) := fun H1 e1 _ q => ⟨d, e, hd H1 e1, he H1 e1, sd, se, q H1 (Ex.refl H1)⟩
theorem rv_neD {x y : V} {d e : PyData} (hd : ∀ H1, Ex H H1 → Dp K H1 x d) (he : ∀ H1, Ex H H1 → Dp K H1 y e) (sd : SeqAt.shaped d = true) (se : SeqAt.shaped e = true) : RV (rNeD K) x y H (.bl (!PyData.eqv d e)) := fun H1 e1 _ q => ⟨d, e, hd H1 e1, he H1 e1, sd, se, q H1 (Ex.refl H1)⟩
/-- xs == [] for ints, for tuples of ints -/
theorem dp_il {p : Addr} {xs : List Int} (h : H p = some (.lst (xs.map V.int))) : ∀ H1, Ex H H1 → Dp K H1 (.ref p) (.list (xs.map PyData.int)) := fun _ e => .lst (sq_of (e _ _ h)) (dp_ints xs)
theorem dp_it {p : Addr} {xs : List Int} (h : H p = some (.tup (xs.map V.int))) : ∀ H1, Ex H H1 → Dp K H1 (.ref p) (.tuple (xs.map PyData.int)) := fun _ e => .tup (st_of (e _ _ h)) (dp_ints xs)
theorem dp_tl {p : Addr} {vs : List V} {α : Type} {f : α → List Int} {xs : List α} (h : H p = some (.lst vs)) (ht : Tups H vs (xs.map fun x => (f x).map V.int)) : ∀ H1, Ex H H1 → Dp K H1 (.ref p) (.list (xs.map fun x => .tuple ((f x).map PyData.int))) :=
  fun _ e => .lst (sq_of (e _ _ h)) (dp_tups f vs xs (ht.ex e))
theorem ev_eqNil {p : Addr} {xs : List Int} (ha : Ev ta σ H (.ref p)) (h : H p = some (.lst (xs.map V.int))) : Ev (tOp (rEqD K) ta (tLst tNil)) σ H (.bl (decide (xs = []))) :=
  ev_opL ha (el_lst ea_nil (by simp)) fun q H1 hq e1 => by
    have r := rv_eqD (K := K) (H := H1) (x := .ref p) (y := .ref q) (dp_il (e1 _ _ h)) (dp_il (xs := []) hq) (shaped_ints _) (shaped_ints _)
    rw [PyData.eqv, eqv_ints] at r
    exact r
theorem ev_neNil {p : Addr} {xs : List Int} (ha : Ev ta σ H (.ref p)) (h : H p = some (.lst (xs.map V.int))) : Ev (tOp (rNeD K) ta (tLst tNil)) σ H (.bl (!decide (xs = []))) :=
  ev_opL ha (el_lst ea_nil (by simp)) fun q H1 hq e1 => by
    have r := rv_neD (K := K) (H := H1) (x := .ref p) (y := .ref q) (dp_il (e1 _ _ h)) (dp_il (xs := []) hq) (shaped_ints _) (shaped_ints _)
    rw [PyData.eqv, eqv_ints] at r
    exact r
theorem ev_tupsNil {p : Addr} {vs : List V} {α : Type} {f : α → List Int} {x : α} {xs : List α} (ha : Ev ta σ H (.ref p)) (h : H p = some (.lst vs)) (ht : Tups H vs ((x :: xs).map fun x => (f x).map V.int)) : Ev (tOp (rEqD K) ta (tLst tNil)) σ H (.bl false) :=
  ev_opL ha (el_lst ea_nil (by simp)) fun q H1 hq e1 => by
    have r := rv_eqD (K := K) (H := H1) (x := .ref p) (y := .ref q) (dp_tl (e1 _ _ h) (ht.ex e1)) (dp_il (xs := []) hq) (shaped_tups _ _) (shaped_ints _)
    rw [PyData.eqv, List.map_cons, List.map_nil, PyData.eqvAll] at r
    exact r
/-! self.f = value -/
def fldK (K : PySem.W.Frag) (D : Ends) (σ : L2.St) (i : Nat) (f : Str) : VK := fun y H1 => tVar i σ H1 fun x H2 => ∃ a C dx fs, x = .ref a ∧ H2 a = some (.ins C dx fs) ∧ Cls K C ∧ NoAttr K C f ∧ fs.length < 1000 ∧ D.nx σ (upd H2 a (.ins C dx (putF f y fs)))
theorem fld_go {p : Addr} {i : Nat} {f : Str} {Cl dx : Addr} {fs : List (Str × V)} {y : V} (hi : σ[i]? = some (some (.ref p))) (hc : Cls K Cl) (hn : NoAttr K Cl f) (hp : H p = some (.ins Cl dx fs)) (hl : fs.length < 1000) (q : D.nx σ (upd H p (.ins Cl dx (putF f y fs)))) : fldK K D σ i f y H :=
  ⟨_, hi, p, Cl, dx, fs, rfl, hp, hc, hn, hl, q⟩
theorem s_fldK {i : Nat} {f : Str} {tv : TE} (h : EvK tv σ H C) (k : C H (fldK K D σ i f)) : sFld K (tVar i) tv f D σ H := h H (Ex.refl H) _ k
theorem q_fldK {i : Nat} {f : Str} {tv : TE} (h : EvK tv σ H C) (k : C H (fldK K { D with nx := tz D } σ i f)) : tSeq (sFld K (tVar i) tv f) tz D σ H := h H (Ex.refl H) _ k
end
/-- all but one object stay -/
def ExB (p : Addr) (H H' : Hp) : Prop := ∀ b o, H b = some o → b ≠ p → H' b = some o
theorem ExB.of {p : Addr} {H H' : Hp} (e : Ex H H') : ExB p H H' := fun b o h _ => e b o h
theorem ExB.trans {p : Addr} {H H1 H2 : Hp} (a : ExB p H H1) (b : ExB p H1 H2) : ExB p H H2 := fun x o h n => b x o (a x o h n) n
theorem ExB.upd {p : Addr} {H : Hp} {o : HO} : ExB p H (upd H p o) := fun b u h n => by rw [upd_ne n]; exact h
theorem Tups.exb {p : Addr} {H H' : Hp} {vs : List V} {xss : List (List V)} {fs : List (Str × V)} {C dx : Addr} (e : ExB p H H') (hp : H p = some (.ins C dx fs)) (h : Tups H vs xss) : Tups H' vs xss := ⟨h.1, fun i x hx => by
  obtain ⟨q, a, b⟩ := h.2 i x hx
  exact ⟨q, a, e _ _ b fun z => by rw [z, hp] at b; cases b⟩⟩
theorem Tups.upd {l : Addr} {o : HO} {xs : List V} {H : Hp} {vs : List V} {xss : List (List V)} (hl : H l = some (.lst xs)) (h : Tups H vs xss) : Tups (L2.upd H l o) vs xss := ⟨h.1, fun i x hx => by
  obtain ⟨q, a, b⟩ := h.2 i x hx
  exact ⟨q, a, by rw [upd_ne fun z => by rw [z, hl] at b; cases b]; exact b⟩⟩
theorem Tups.snoc {H : Hp} {vs : List V} {xss : List (List V)} {q : Addr} {x : List V} (h : Tups H vs xss) (hq : H q = some (.tup x)) : Tups H (vs ++ [.ref q]) (xss ++ [x]) := by
  refine ⟨by rw [List.length_append, List.length_append, h.1]; rfl, fun i y hy => ?_⟩
  by_cases hi : i < xss.length
  · rw [List.getElem?_append_left hi] at hy
    obtain ⟨p, a, b⟩ := h.2 i y hy
    exact ⟨p, by rw [List.getElem?_append_left (by rw [h.1]; exact hi)]; exact a, b⟩
  · have hi2 : i = xss.length := by
      have := (List.getElem?_eq_some_iff.mp hy).1
      rw [List.length_append] at this
      simp only [List.length_cons, List.length_nil] at this
      omega
    subst hi2
    rw [List.getElem?_append_right (Nat.le_refl _), Nat.sub_self] at hy
    obtain rfl : x = y := by simpa using hy
    exact ⟨q, by rw [← h.1, List.getElem?_append_right (Nat.le_refl _), Nat.sub_self]; rfl, hq⟩
theorem sw_cell {elt : Expr} {gs : List Comprehension} {scope : Scope} {pos py : Pos} {y : Str} {l : Nat} {env : Env} (hy : env.scope.names.lookup y = some .cell) : swapsWith (.ListComp elt gs scope pos) (some (.Name y py)) l env = pure false := by
  have ky : env.kindOf y = some .cell := hy
  unfold swapsWith
  simp only [ky]
  have : (some NameKind.cell == some NameKind.local) = false := rfl
  rw [this, Bool.and_false, Bool.false_and, Bool.false_and]
theorem hu_of {k : Nat} {A : Around} (h : Room k A) : A.units + 1 < cLine := by
  have := h.units
  omega
/-! ### {t: v} with one pair, the key a tuple -/
section
variable {X : Cx} {σ : L2.St} {H : Hp}
def tDisp1T (tk tv : TE) : TE := fun σ H Q => ∀ p, H p = none → tk σ (upd H p (.dT [])) fun x H1 => tv σ H1 fun y H2 => H2 p = some (.dT []) ∧ ∃ (b : Addr) (k : List Key), x = .ref b ∧ H2 b = some (.tup (k.map kV)) ∧ Q (.ref p) (upd H2 p (.dT [(k, y)]))
theorem pe_disp1T {pos : Pos} {k v : Expr} {tk tv : TE} (hu : X.A.units + 1 < cLine) (hk : PE X k tk) (hv : PE X v tv) : PE X (.Dict [some k] [v] pos) (tDisp1T tk tv) := by
  refine ⟨fun pins s σ H Q I q => ?_⟩
  have hn := I.hok.fresh (Nat.le_refl s.heap.objs.size)
  have I1 := I.laid (a := s.heap.objs.size) (o := .dT []) (h' := s.heap.push { cls := .type "dict", data := .dict #[] }) (t' := s.toks) (fun _ _ q => Heap.get?_push_of_some _ q) (Nat.le_refl _) (dt_empty s.heap I.big)
  rw [arm_eval_Dict, zip_pairTrees [some k] [v] X.env pos rfl rfl, dictDisplay_pairs _ (by intro z; have := congrArg List.length z; rw [pairTrees_length [some k] [v] X.env pos rfl rfl] at this; cases this) (by rw [pairTrees_length [some k] [v] X.env pos rfl rfl]; show 1 < 17; decide)]
  refine wpAny_bind (wpAny_standAt (wpAny_bind (wpAny_subDictH (knd := tupleKind (mixKind X.prog X.w)) (show X.A.units < cLine from Nat.lt_of_succ_lt hu) (by rw [pairTrees_length [some k] [v] X.env pos rfl rfl]; show 1 ≤ 15; decide) ?_)))
  refine pairTrees_cons_walk (thn (hk.run pins _ σ _ _ I1 (q _ hn)) fun u s1 ⟨x, H1, I2, rx, q1⟩ => thn (hv.run pins s1 σ H1 _ I2 q1) fun w2 s2 ⟨y, H2, I3, ry, e, b, kk, ex, eb, q2⟩ => pairTrees_nil_walk ?_)
  subst ex
  cases (show u = Value.ref b from rx)
  obtain ⟨z, hd, xs, rel, dd⟩ := dt_of I3.hok e
  cases rel
  refine ⟨[(kk, b, w2)], ⟨rfl, rfl, key_of I3.hok eb, trivial⟩, dd, fun h' tk' dd' hs => wpAny_pure ⟨.ref s.heap.objs.size, _, ?_, rfl, q2⟩⟩
  obtain ⟨ob, es, ep, hq, h2, h3, h4, _, h5⟩ := dd'
  refine d_write I3 (by rw [e]; exact True.intro) hs ⟨ob, hq⟩ ⟨by simp [sizeLine_eq], hd, [(kk, b, w2)], .cons ⟨rfl, ?_, ry⟩ .nil, ob, es, ep, hq, h2, h3, h4, h5⟩
  show upd H2 _ _ b = _
  rw [upd_ne fun z => by rw [z, e] at eb; cases eb]
  exact eb
end
/-! ### the def that makes a lambda: its code object is known -/
theorem code_of {K : PySem.W.Frag} {x qual : Str} {params : Arguments} {body : List Stmt} {scope : Scope} {dvs : List V} {kws : List (Str × V)} {fd : FuncData} {p : He.Defn} (F : FunD K x qual params body scope dvs kws (He.fAd K p) fd) : fd.code = .ref (He.codeOf K p) := by
  obtain ⟨oc, od, dV, kV, doc, pm, an, cdv, ct, osl, rfl, lk, hcd, _, _⟩ := F.ex
  obtain ⟨c, rfl⟩ := He.codeIn_ref hcd
  have e : He.codeOf K p = c := He.codeOf_eq lk rfl
  rw [e]
theorem okL {P : Program} {w : World} {K : PySem.W.Frag} {mg : Str → Option Value} {base : Heap} {x qual : Str} {params : Arguments} {body : List Stmt} {scope : Scope} {dvs : List V} {kws : List (Str × V)} {f c0 : Addr} {fd : FuncData}
    {CX : CXT} {N ps : List Str} {k : Nat} {sp : Sp} (F : FunD K x qual params body scope dvs kws f fd) (hc : fd.code = .ref c0) (S : FnScope N ps scope) (len : ∀ vs H Q E, sp vs H Q E → vs.length = ps.length)
    (hbody : ∀ (A : Around) (outer : List Env) (s : Shared) (H : Hp) (vs : List V) (Q : VK) (E : XK), Room k (A.deeper (envOfC qual scope s.heap.objs.size f (.ref c0))) → sp vs H Q E →
      ∃ t, PSs (cxOf CX P w K mg base N qual scope f (.ref c0) A outer s H E).nox body t ∧ t { nx := fun _ H' => Q .non H', rt := Q } (start N vs) H) : FnOk P w K mg base CX (k + 1) f fd ps sp := by
  obtain ⟨oc, od, dV, kV, doc, pm, an, cdv, ct, osl, rfl, lk, hcd, _, _⟩ := F.ex
  have e : cdv = .ref c0 := hc
  subst e
  exact fn_of lk hcd S len fun A outer s H vs Q E hr h => by
    obtain ⟨t, a, b⟩ := hbody A outer s H vs Q E hr h
    exact ⟨t, a.nox, b⟩
/-- the table's name -/
def lamT (P0 : Addr) : List (Addr × Str) := [(P0, ("_law_ways.<locals>." : Str) ++ "<lambda>")]
/-! ### webs.py -/
def sp_come_to : Sp := fun vs H Q _ => ∃ (n : Nat) (a : Addr) (es : List (Nat × Nat)) (us : List V), vs = [.int (n : Int), .ref a] ∧ H a = some (.lst us) ∧ Tups H us (es.map pairV) ∧ n ≤ 12 ∧ es.length ≤ 100 ∧ RetV (.int ((comeTo n es).length : Int)) H Q
theorem ctIn_len (x : Nat) : ∀ (es : List (Nat × Nat)) (met : List Nat), (ctIn x es met).length ≤ met.length + es.length
  | [], met => Nat.le_refl _
  | e :: es, met => by
    rw [ctIn_cons]
    have := ctIn_len x es (if e.1 = x ∧ e.2 ∉ met then met ++ [e.2] else met)
    split at this
    · rename_i h
      rw [if_pos h]
      rw [List.length_append] at this
      simp only [List.length_cons, List.length_nil] at this ⊢
      omega
    · rename_i h
      rw [if_neg h]
      simp only [List.length_cons]
      omega
theorem ct_len (es : List (Nat × Nat)) (i : Nat) : ((List.range i).foldl (ctStep es) [0]).length ≤ 1 + i * es.length := by
  induction i with
  | zero => exact Nat.le_add_right 1 _
  | succ i ih =>
    rw [List.range_succ, List.foldl_append]
    show (ctStep es ((List.range i).foldl (ctStep es) [0]) i).length ≤ _
    generalize (List.range i).foldl (ctStep es) [0] = met at ih
    unfold ctStep
    rw [Nat.succ_mul]
    split
    · have := ctIn_len (met.getD i 0) es met
      omega
    · omega
abbrev s_come_to : Stmt := (top 13)
abbrev N_come_to : List Str := ["many", "pairs", "met", "meeting", "one", "other"]
theorem sc_come_to : FnScope N_come_to ["many", "pairs"] (defScope s_come_to) := ⟨rfl, rfl, rfl, by decide +kernel, rfl, by decide +kernel, by decide +kernel⟩

theorem ok_come_to (T : Txt K mg) : FnOk P w K mg base CX0 1 T.a_come_to T.d_come_to ["many", "pairs"] sp_come_to := by
  refine okN T.F_come_to sc_come_to (fun vs H Q E h => ?_) (fun cdv A outer s H vs Q E HR h => ?_)
  · obtain ⟨n, a, es, us, rfl, _⟩ := h
    rfl
  · obtain ⟨n, a, es, us, rfl, ha, hT, hn, he, q⟩ := h
    refine ⟨_, (pss_cons (ps_set (i := 2) sc_come_to.nd rfl (by first | exact Or.inl rfl | exact Or.inr rfl) (pe_lst (pa_cons pe_int pa_nil)))
  (pss_cons (ps_for PassesOwn.never rfl (pi_range1 (by rfl) T.n_range (pa_cons (pv 0) pa_nil)) (pg_name (i := 3) sc_come_to.nd rfl (by first | exact Or.inl rfl | exact Or.inr rfl))
  (pss_one (ps_if (pt_cmpR op_lt (pv 3) (pe_callB call_len_seq (by rfl) T.n_len boot_len (pa_cons (pv 2) pa_nil)) (nomark _))
  (pss_one (ps_for PassesOwn.never rfl (pi_list (pv 1)) (pg_tup rfl (pgs_cons (pg_name (i := 4) sc_come_to.nd rfl (by first | exact Or.inl rfl | exact Or.inr rfl)) (pgs_cons (pg_name (i := 5) sc_come_to.nd rfl (by first | exact Or.inl rfl | exact Or.inr rfl)) pgs_nil)))
  (pss_one (ps_if (PW.pt (pw_and (pt_cmpR op_eq (pv 4) (pe_ix ix_list (pv 2) (pv 3) (fun _ _ => rfl)) (nomark _)) (pw_and1 (pt_cmpR op_notIn_seq (pv 5) (pv 2) rfl))))
  (pss_one (ps_set (i := 2) sc_come_to.nd rfl (by first | exact Or.inl rfl | exact Or.inr rfl) (pe_op op_cat (pv 2) (pe_lst (pa_cons (pv 5) pa_nil))))) pss_nil)))) pss_nil)))
  (pss_one (ps_ret (pe_callB call_len_seq (by rfl) T.n_len boot_len (pa_cons (pv 2) pa_nil)))))), ?_⟩
    refine q_asgL (el_lst (ea_cons ev_c ea_nil) (by simp)) fun l0 H1 hl0 e1 h1 => ?_
    refine q_forR1 (n := (n : Int)) (ea_cons (ev_var rfl) ea_nil) ⟨by omega, by omega⟩ (fun i σ' H' => ∃ (l : Addr) (r3 r4 r5 : Option V), σ' = [some (.int (n : Int)), some (.ref a), some (.ref l), r3, r4, r5] ∧ H' l = some (.lst (natV ((List.range i).foldl (ctStep es) [0]))) ∧ Ex H H')
      (fun H2 e2 => ⟨l0, none, none, none, rfl, e2 _ _ h1, e1.trans e2⟩) ?_ ?_
    · rintro i σ' H' hi ⟨l, r3, r4, r5, rfl, hl, e⟩
      have hm0 := ct_len es i
      have hmul : i * es.length ≤ 12 * 100 := Nat.mul_le_mul (by omega) he
      generalize hmet : (List.range i).foldl (ctStep es) [0] = met at hl hm0
      have hstep : (List.range (i + 1)).foldl (ctStep es) [0] = ctStep es met i := by
        rw [List.range_succ, List.foldl_append, hmet]
        rfl
      show tIfS _ _ _ _ _ _
      refine s_when (b := decide (i < met.length)) (et_is (et_test (ev_op (ev_var rfl) (ev_len (ev_var rfl) (sq_of hl)) rv_I0)) (by rw [natV_len]; exact decide_eq_decide.mpr (by omega))) (fun hb H2 e2 => ?_) (fun hb H2 e2 => ?_)
      · have hb := of_decide_eq_true hb
        obtain ⟨x, hx⟩ : ∃ x, met[i]? = some x := ⟨met[i], List.getElem?_eq_getElem hb⟩
        have ext : ∀ j, ∃ r, ctIn x (es.take j) met = met ++ r := fun j => by
          have key : ∀ (fs : List (Nat × Nat)) (m : List Nat), ∃ r, ctIn x fs m = m ++ r := by
            intro fs
            induction fs with
            | nil => exact fun m => ⟨[], by rw [List.append_nil]; rfl⟩
            | cons f fs ih =>
              intro m
              rw [ctIn_cons]
              split
              · obtain ⟨r, hr⟩ := ih (m ++ [f.2])
                exact ⟨f.2 :: r, by rw [hr, List.append_assoc]; rfl⟩
              · exact ih m
          exact key _ _
        refine s_forL (a := a) (xs := us) (ev_var rfl) (sq_of (e2 _ _ (e _ _ ha))) (fun j σ' H' => ∃ (l : Addr) (r4 r5 : Option V), σ' = [some (.int (n : Int)), some (.ref a), some (.ref l), some (.int (i : Int)), r4, r5] ∧ H' l = some (.lst (natV (ctIn x (es.take j) met))) ∧ Ex H H')
          (fun H3 e3 => ⟨l, r4, r5, rfl, e3 _ _ (e2 _ _ hl), (e.trans e2).trans e3⟩) (fun j σ' H' _ ⟨_, _, _, _, _, e⟩ => sq_of (e _ _ ha)) ?_ ?_
        · rintro j u σ' H' hj ⟨l, r4, r5, rfl, hl, e⟩
          obtain ⟨p, xv, rfl, hxv, hp⟩ := (hT.ex e).at hj
          rw [List.getElem?_map] at hxv
          obtain ⟨ed, hed, rfl⟩ := Option.map_eq_some_iff.mp hxv
          have hstep2 : ctIn x (es.take (j + 1)) met = (if ed.1 = x ∧ ed.2 ∉ ctIn x (es.take j) met then ctIn x (es.take j) met ++ [ed.2] else ctIn x (es.take j) met) := by
            rw [List.take_add_one, hed]
            unfold ctIn
            rw [List.foldl_append]
            rfl
          have hlen2 := ctIn_len x (es.take j) met
          have htk : (es.take j).length ≤ es.length := by rw [List.length_take]; omega
          obtain ⟨rr, hrr⟩ := ext j
          have hxi : (ctIn x (es.take j) met)[i]? = some x := by
            rw [hrr, List.getElem?_append_left hb]
            exact hx
          generalize ctIn x (es.take j) met = cm at hl hstep2 hlen2 hxi
          refine g_tup2 (K := K) hp ?_
          refine s_when (b := decide (ed.1 = x) && !decide (ed.2 ∈ cm)) (et_and (a := decide (ed.1 = x)) (et_is (et_test (ev_op (ev_var rfl) (ev_op (ev_var rfl) (ev_var rfl) (rv_ixL (sq_of hl) (at_nat (natV_at hxi)))) (rv_eq rfl))) (decide_eq_decide.mpr ⟨fun z => by cases z; rfl, fun z => by rw [z]⟩)) fun _ =>
            et_is (et_test (ev_op (ev_var rfl) (ev_var rfl) (rv_niL (sq_of hl) rfl (flat_natV _)))) (by rw [inV_nat])) (fun hc H3 e3 => ?_) (fun hc H3 e3 => ?_)
          · have hc2 : ed.1 = x ∧ ed.2 ∉ cm := by simpa using hc
            refine s_asgL (el_cat (ew_of (ev_var rfl) (e3 _ _ hl)) (ew_new (el_lst (ea_cons (ev_var rfl) ea_nil) (by simp))) (by rw [natV_len]; simp only [List.length_cons, List.length_nil]; omega)) fun p2 H4 _ e4 h4 => ?_
            refine ⟨p2, _, _, rfl, ?_, (e.trans e3).trans e4⟩
            rw [h4, hstep2, if_pos hc2, natV_app]
            rfl
          · have hc2 : ¬ (ed.1 = x ∧ ed.2 ∉ cm) := by simpa using hc
            exact ⟨l, _, _, rfl, by rw [hstep2, if_neg hc2]; exact e3 _ _ hl, e.trans e3⟩
        · rintro σ' H' ⟨l, r4, r5, rfl, hl, e⟩
          refine ⟨l, _, _, _, rfl, ?_, e⟩
          rw [hl, hstep]
          unfold ctStep
          rw [if_pos hb, getD_of hx, List.take_of_length_le (by rw [← hT.1.trans (List.length_map _)]; exact Nat.le_refl _)]
      · have hb := of_decide_eq_false hb
        refine ⟨l, _, _, _, rfl, ?_, e.trans e2⟩
        rw [hstep]
        unfold ctStep
        rw [if_neg hb]
        exact e2 _ _ hl
    · rintro σ' H' ⟨l, r3, r4, r5, rfl, hl, e⟩
      refine s_ret (ev_is (ev_len (ev_var rfl) (sq_of hl)) (by rw [natV_len]; rfl)) fun H2 e2 => q H2 (e.trans e2)
/-! the methods that ask a web -/
def sp_Web_need_meeting (C : Addr) : Sp := fun vs H Q _ => ∃ (p dx : Addr) (fs : List (Str × V)) (n m : Nat), vs = [.ref p, .int (m : Int)] ∧ H p = some (.ins C dx fs) ∧ fs.lookup ("many" : Str) = some (.int (n : Int)) ∧ m < n ∧ RetV .non H Q
abbrev s_Web_need_meeting : Stmt := (inClass (top 14) 1)
abbrev N_Web_need_meeting : List Str := ["self", "meeting"]
theorem sc_Web_need_meeting : FnScope N_Web_need_meeting ["self", "meeting"] (defScope s_Web_need_meeting) := ⟨rfl, rfl, rfl, by decide +kernel, rfl, by decide +kernel, by decide +kernel⟩

theorem ok_Web_need_meeting (T : Txt K mg) : FnOk P w K mg base CX0 1 T.a_Web_need_meeting T.d_Web_need_meeting ["self", "meeting"] (sp_Web_need_meeting T.a_Web) := by
  refine okN T.F_Web_need_meeting sc_Web_need_meeting (fun vs H Q E h => ?_) (fun cdv A outer s H vs Q E HR h => ?_)
  · obtain ⟨p, dx, fs, n, m, rfl, _⟩ := h
    rfl
  · obtain ⟨p, dx, fs, n, m, rfl, hp, hf, hm, q⟩ := h
    refine ⟨_, (pss_one (ps_if (PW.pt (pw_or (pt_cmpR op_lt (pv 1) pe_int (nomark _)) (pw_or1 (pt_cmpR op_ge (pv 1) (pe_fld (pv 0) rfl) (nomark _)))))
  (pss_one ps_never) pss_nil)), ?_⟩
    refine s_when (b := false) (et_or (a := false) (et_is (et_test (ev_op (ev_var rfl) ev_c rv_I0)) (decide_eq_false (by omega))) fun _ => et_is (et_test (ev_op (ev_var rfl) (ev_fld (ev_var rfl) hp T.cl_Web T.na_many hf) rv_I0)) (decide_eq_false (by omega))) (fun z => by cases z) fun _ H1 e1 => q H1 e1
theorem mn_ : ¬ (("need_meeting" : Str) = "many") ∧ ¬ (("need_meeting" : Str) = "ways") ∧ ¬ (("need_meeting" : Str) = "inner") := by decide +kernel
theorem nm_look (n : Nat) (lw li : Addr) : (webF n lw li).lookup ("need_meeting" : Str) = none := webF_no n lw li mn_.1 mn_.2.1 mn_.2.2
theorem nm_look2 (n : Nat) (lw : Addr) : (wf2 n lw).lookup ("need_meeting" : Str) = none := wf2_no n lw mn_.1 mn_.2.1
/-- self.need_meeting(e) of a meeting: nothing -/
theorem ev_need {C : Addr} {σ : L2.St} {H : Hp} {E : XK} {ta : TE} {t : TA} {p dx : Addr} {fs : List (Str × V)} {n m : Nat} (ha : Ev ta σ H (.ref p)) (ho : H p = some (.ins C dx fs)) (hn : fs.lookup ("need_meeting" : Str) = none) (hf : fs.lookup ("many" : Str) = some (.int (n : Int)))
    (hv : EvA t σ H [.int (m : Int)]) (hm : m < n) : Ev (tMeth C "need_meeting" (sp_Web_need_meeting C) [] E ta t) σ H .non :=
  ek_meth mo_v ha ho hn hv fun H1 e1 Q E q => ⟨p, dx, fs, n, m, rfl, e1 _ _ ho, hf, hm, q⟩
/-! Web(many, ways), of a web as the document has it -/
def sp_Web_init (C : Addr) : Sp := fun vs H Q _ => ∃ (p dx lw0 : Addr) (n : Nat) (ws : List Way) (vw : List V), vs = [.ref p, .int (n : Int), .ref lw0] ∧ H p = some (.ins C dx []) ∧ H lw0 = some (.lst vw) ∧ Tups H vw (ws.map wayV) ∧ WebOk n ws ∧
  ∀ H', WebAt C H' p n ws → (∀ b o, H b = some o → b ≠ p → H' b = some o) → (∀ xs, WebAt C (upd H' lw0 (.lst xs)) p n ws) → Q .non H'
theorem wayV_at {H : Hp} {vw : List V} {ws : List Way} {i : Nat} {v : V} (h : Tups H vw (ws.map wayV)) (hv : vw[i]? = some v) : ∃ (q : Addr) (w : Way), v = .ref q ∧ ws[i]? = some w ∧ w ∈ ws ∧ H q = some (.tup (wayV w)) := by
  obtain ⟨q, x, rfl, hx, hq⟩ := h.at hv
  rw [List.getElem?_map] at hx
  obtain ⟨w, hw, rfl⟩ := Option.map_eq_some_iff.mp hx
  exact ⟨q, w, rfl, hw, List.mem_of_getElem? hw, hq⟩
theorem inn_take {ws : List Way} {i m : Nat} {w : Way} (h : ws[i]? = some w) : inn (ws.take (i + 1)) m = if w.2.1 = m then inn (ws.take i) m ++ [(w.1, w.2.2)] else inn (ws.take i) m := by
  unfold inn
  rw [List.take_add_one, h, List.filter_append, List.map_append]
  by_cases e : w.2.1 = m
  · rw [if_pos e]
    simp [e]
  · rw [if_neg e]
    simp [e]
/-- the pairs of a list of ways, one after the other -/
theorem el_wayPairs {K : PySem.W.Frag} {H : Hp} {p : Addr} {vw : List V} {ws : List Way} {σ : L2.St} {tl : TE} {i j : Int} {vs : List Nat} (f : Way → Nat × Nat) (ha : Ev tl σ H (.ref p)) (hp : H p = some (.lst vw)) (hT : Tups H vw (ws.map wayV)) (hl : ws.length ≤ 60) (hv : vs = [3])
    (hw : ∀ x, wipe ((wipe σ vs).set 3 (some x)) vs = wipe σ vs) (hk : ∀ x, ((wipe σ vs).set 3 (some x))[3]? = some (some x)) (h1 : ∀ w, atI (wayV w) i = some (.int ((f w).1 : Int))) (h2 : ∀ w, atI (wayV w) j = some (.int ((f w).2 : Int))) :
    EvK (tLc (iList K tl) (gName 3) tYes (tTup (tCons (tOp (rIxT K) (tVar 3) (tC (V.int i))) (tCons (tOp (rIxT K) (tVar 3) (tC (V.int j))) tNil))) vs) σ H (fun H1 Q => ∀ D H2 us, H1 D = none → Ex H1 H2 → H2 D = some (.lst us) → Tups H2 us ((ws.map f).map pairV) → Q (.ref D) H2) := by
  have hlen : vw.length = ws.length := hT.1.trans (List.length_map _)
  intro H1 e1 Q q
  refine ek_lcS (K := K) (fun n => (wipe σ vs).set 3 (some (vw.getD n .non))) (fun n => .tup (pairV (f (ws.getD n (0, 0, 0))))) (es_of ha (sq_of hp)) (by omega) (fun n x H2 e2 hx Q qq => by rw [getD_of hx] at qq; exact qq) (fun n x hx => hw _) (fun n x H2 e2 hx => et_true) (fun n x H2 e2 hx => ?_) H1 e1 Q ?_
  · obtain ⟨q, w, rfl, hw2, _, hq⟩ := wayV_at (hT.ex e2) hx
    rw [getD_of hx, getD_of hw2]
    have r := eu_tup (ea_cons (ev_op (ev_var (hk (.ref q))) ev_c (rv_ixT (K := K) (H := H2) (st_of hq) (h1 w))) (ea_cons (ev_op (ev_var (hk (.ref q))) ev_c (rv_ixT (K := K) (H := H2) (st_of hq) (h2 w))) ea_nil)) (by simp)
    exact fun H3 e3 Q q => r H3 e3 Q fun p H4 hp4 e4 h4 => q p H4 hp4 e4 h4
  · intro D H2 ps hD e2 h2 hn
    refine q D H2 _ hD e2 h2 ?_
    have t := tups_new hn
    rw [hlen] at t
    have e : (List.range ws.length).map (fun n => pairV (f (ws.getD n (0, 0, 0)))) = (ws.map f).map pairV := by
      rw [map_getD ws (0, 0, 0) (fun w => pairV (f w)), List.map_map]
      rfl
    rw [e] at t
    exact t
/-- how the inner lists stand behind i ways -/
def InnAt (H : Hp) (ps : List Addr) (n : Nat) (ws : List Way) : Prop := ∀ m, m < n → ∃ lm vm, ps[m]? = some lm ∧ H lm = some (.lst vm) ∧ Tups H vm ((inn ws m).map pairV)
theorem InnAt.snoc {H : Hp} {ps : List Addr} {n i : Nat} {ws : List Way} {w : Way} {lm q : Addr} {vm : List V} (h : InnAt H ps n (ws.take i)) (hw : ws[i]? = some w) (nd : ps.Nodup) (hm : ps[w.2.1]? = some lm) (hl : H lm = some (.lst vm)) (hv : Tups H vm ((inn (ws.take i) w.2.1).map pairV))
    (hq : H q = some (.tup [.int (w.1 : Int), .int (w.2.2 : Int)])) : InnAt (upd H lm (.lst (vm ++ [.ref q]))) ps n (ws.take (i + 1)) := by
  intro m hmn
  rw [inn_take hw]
  by_cases e : w.2.1 = m
  · rw [if_pos e, ← e]
    refine ⟨lm, _, hm, upd_same, ?_⟩
    rw [List.map_append]
    exact (hv.upd hl).snoc (by rw [upd_ne fun z => by rw [z, hl] at hq; cases hq]; exact hq)
  · rw [if_neg e]
    obtain ⟨lm', vm', k1, k2, k3⟩ := h m hmn
    have hne : lm' ≠ lm := fun z => e ((List.getElem?_inj (List.getElem?_eq_some_iff.mp hm).1 nd).mp (by rw [hm, k1, z]))
    exact ⟨lm', vm', k1, by rw [upd_ne hne]; exact k2, k3.upd hl⟩
abbrev s_Web_init : Stmt := (inClass (top 14) 0)
abbrev N_Web_init : List Str := ["self", "many", "ways", "way", "pairs", "back", "meeting"]
theorem sc_Web_init : FnScope N_Web_init ["self", "many", "ways"] (defScope s_Web_init) := ⟨rfl, rfl, rfl, by decide +kernel, rfl, by decide +kernel, by decide +kernel⟩

theorem ok_Web_init (T : Txt K mg) : FnOk P w K mg base CX0 2 T.a_Web_init T.d_Web_init ["self", "many", "ways"] (sp_Web_init T.a_Web) := by
  refine okN T.F_Web_init sc_Web_init (fun vs H Q E h => ?_) (fun cdv A outer s H vs Q E HR h => ?_)
  · obtain ⟨p, dx, lw0, n, ws, vw, rfl, _⟩ := h
    rfl
  · obtain ⟨p, dx, lw0, n, ws, vw, rfl, hp, hl, hT, hw, q⟩ := h
    have hvl : vw.length = ws.length := hT.1.trans (List.length_map _)
    have hwl := hw.len
    have hn1 := hw.n1
    have hn12 := hw.n12
    refine ⟨_, (pss_cons (ps_if (PW.pt (pw_or (pt_cmpR op_lt (pv 1) pe_int (nomark _)) (pw_or (pt_cmpR op_gt (pv 1) (pe_glob (v := .int 12) (by rfl) T.g_MOST_MEETINGS.choose_spec ⟨_, rfl⟩) (nomark _)) (pw_or1 (pt_cmpR op_gt (pe_callB call_len_seq (by rfl) T.n_len boot_len (pa_cons (pv 2) pa_nil)) (pe_glob (v := .int 60) (by rfl) T.g_MOST_WAYS.choose_spec ⟨_, rfl⟩) (nomark _))))))
  (pss_one ps_never) pss_nil)
  (pss_cons (ps_fld (pv 0) (pv 1) rfl)
  (pss_cons (ps_fld (pv 0) (pe_callTy call_list_of (by rfl) T.n_list (by decide +kernel) (pa_cons (pv 2) pa_nil)) rfl)
  (pss_cons (ps_for PassesOwn.never rfl (pi_list (pe_fld (pv 0) rfl)) (pg_name (i := 3) sc_Web_init.nd rfl (by first | exact Or.inl rfl | exact Or.inr rfl))
  (pss_cons (ps_expr (pe_meth (pv 0) T.cl_Web T.m_Web_need_meeting (ok_Web_need_meeting T) (HR.mono (by decide)) T.b_Web_need_meeting .nil pass0 (pa_cons (pe_ix ix_tup (pv 3) pe_int (fun _ _ => rfl)) pa_nil)))
  (pss_one (ps_expr (pe_meth (pv 0) T.cl_Web T.m_Web_need_meeting (ok_Web_need_meeting T) (HR.mono (by decide)) T.b_Web_need_meeting .nil pass0 (pa_cons (pe_ix ix_tup (pv 3) pe_int (fun _ _ => rfl)) pa_nil))))))
  (pss_cons (ps_for PassesOwn.never rfl (pi_list (pe_fld (pv 0) rfl)) (pg_name (i := 3) sc_Web_init.nd rfl (by first | exact Or.inl rfl | exact Or.inr rfl))
  (pss_one (ps_if (PW.pt (pw_or (pt_cmpR op_lt (pe_ix ix_tup (pv 3) pe_int (fun _ _ => rfl)) pe_int (nomark _)) (pw_or1 (pt_cmpR op_gt (pe_ix ix_tup (pv 3) pe_int (fun _ _ => rfl)) (pe_glob (v := .int 9999) (by rfl) T.g_GREATEST.choose_spec ⟨_, rfl⟩) (nomark _)))))
  (pss_one ps_never) pss_nil)))
  (pss_cons (ps_setLc (i := 4) (g := (gName 3)) (tt := tYes) (te := (tTup (tCons (tOp (rIxT K) (tVar 3) (tC (.int 0))) (tCons (tOp (rIxT K) (tVar 3) (tC (.int 1))) tNil)))) (own := [("way", 3)]) rfl sc_Web_init.nd rfl rfl (sw_true rfl rfl rfl (by decide +kernel)) (pi_list (pe_fld (pv 0) rfl)) (blkOk_by (own := [("way", 3)]) (N := N_Web_init) (sc := defScope s_Web_init) (by decide +kernel)) (fun _ _ _ _ _ => (pg_name (i := 3) sc_Web_init.nd rfl (by first | exact Or.inl rfl | exact Or.inr rfl))) (fun _ _ _ _ _ => pts_nil) (fun _ _ _ _ _ => (pe_tup (pa_cons (pe_ix ix_tup (pv 3) pe_int (fun _ _ => rfl)) (pa_cons (pe_ix ix_tup (pv 3) pe_int (fun _ _ => rfl)) pa_nil)))))
  (pss_cons (ps_setLc (i := 5) (g := (gName 3)) (tt := tYes) (te := (tTup (tCons (tOp (rIxT K) (tVar 3) (tC (.int 1))) (tCons (tOp (rIxT K) (tVar 3) (tC (.int 0))) tNil)))) (own := [("way", 3)]) rfl sc_Web_init.nd rfl rfl (sw_true rfl rfl rfl (by decide +kernel)) (pi_list (pe_fld (pv 0) rfl)) (blkOk_by (own := [("way", 3)]) (N := N_Web_init) (sc := defScope s_Web_init) (by decide +kernel)) (fun _ _ _ _ _ => (pg_name (i := 3) sc_Web_init.nd rfl (by first | exact Or.inl rfl | exact Or.inr rfl))) (fun _ _ _ _ _ => pts_nil) (fun _ _ _ _ _ => (pe_tup (pa_cons (pe_ix ix_tup (pv 3) pe_int (fun _ _ => rfl)) (pa_cons (pe_ix ix_tup (pv 3) pe_int (fun _ _ => rfl)) pa_nil)))))
  (pss_cons (ps_if (PW.pt (pw_or (pt_cmpR (op_eqD HR.units) (pv 4) (pe_lst pa_nil) (nomark _)) (pw_or (pt_cmpR op_lt (pe_call (ok_come_to T) (HR.mono (by decide)) (by rfl) T.g_come_to T.F_come_to.kp T.b_come_to .nil pass0 (pa_cons (pv 1) (pa_cons (pv 4) pa_nil))) (pv 1) (nomark _)) (pw_or1 (pt_cmpR op_lt (pe_call (ok_come_to T) (HR.mono (by decide)) (by rfl) T.g_come_to T.F_come_to.kp T.b_come_to .nil pass0 (pa_cons (pv 1) (pa_cons (pv 5) pa_nil))) (pv 1) (nomark _))))))
  (pss_one ps_never) pss_nil)
  (pss_cons (ps_fld (pv 0) (pe_lc (g := (gName 6)) (tt := tYes) (te := (tLst tNil)) (own := [("meeting", 6)]) rfl sc_Web_init.nd (pi_range1 (by rfl) T.n_range (pa_cons (pv 1) pa_nil)) (blkOk_by (own := [("meeting", 6)]) (N := N_Web_init) (sc := defScope s_Web_init) (by decide +kernel)) (fun _ _ _ _ _ => (pg_name (i := 6) sc_Web_init.nd rfl (by first | exact Or.inl rfl | exact Or.inr rfl))) (fun _ _ _ _ _ => pts_nil) (fun _ _ _ _ _ => (pe_lst pa_nil))) rfl)
  (pss_one (ps_for PassesOwn.never rfl (pi_list (pe_fld (pv 0) rfl)) (pg_name (i := 3) sc_Web_init.nd rfl (by first | exact Or.inl rfl | exact Or.inr rfl))
  (pss_one (ps_expr (pe_bm PySem.F.plainAttrs_list PySem.F.slot_list_append PySem.F.type_list_append mt_append (pe_ix ix_list (pe_fld (pv 0) rfl) (pe_ix ix_tup (pv 3) pe_int (fun _ _ => rfl)) (fun _ _ => rfl)) (pa_cons (pe_tup (pa_cons (pe_ix ix_tup (pv 3) pe_int (fun _ _ => rfl)) (pa_cons (pe_ix ix_tup (pv 3) pe_int (fun _ _ => rfl)) pa_nil))) pa_nil))))))))))))))), ?_⟩
    refine q_when (b := false) (et_or (a := false) (et_is (et_test (ev_op (ev_var rfl) ev_c rv_I0)) (decide_eq_false (by omega))) fun _ => et_or (a := false) (et_is (et_test (ev_op (ev_var rfl) ev_c rv_I0)) (decide_eq_false (by omega))) fun _ =>
      et_is (et_test (ev_op (ev_len (ev_var rfl) (sq_of hl)) ev_c rv_I0)) (decide_eq_false (by omega))) (fun z => by cases z) fun _ H1 e1 => ?_
    refine q_fldK (C := RetV (.int (n : Int))) (ev_var rfl) fun H2 e2 => fld_go (p := p) rfl T.cl_Web T.na_many (e2 _ _ (e1 _ _ hp)) (by simp) ?_
    have b2 : ExB p H (upd H2 p (.ins T.a_Web dx (wf1 n))) := (ExB.of (e1.trans e2)).trans .upd
    have n2 : lw0 ≠ p := fun z => by rw [z, hp] at hl; cases hl
    generalize hH3 : upd H2 p (.ins T.a_Web dx (wf1 n)) = H3 at b2
    have p3 : H3 p = some (.ins T.a_Web dx (wf1 n)) := by rw [← hH3, upd_same]
    show tSeq _ _ _ _ (upd H2 p (.ins T.a_Web dx (wf1 n)))
    rw [hH3]
    have l3 : H3 lw0 = some (.lst vw) := b2 _ _ hl n2
    have t3 : Tups H3 vw (ws.map wayV) := hT.exb b2 hp
    refine q_fldK (C := RetL vw) (el_list (ev_var rfl) (sq_of l3)) fun lw H4 hlw e4 h4 => fld_go (p := p) rfl T.cl_Web T.na_ways (e4 _ _ p3) (by have := putF_len ("many" : Str) (.int (n : Int)) []; unfold wf1; simp only [List.length_nil] at this; omega) ?_
    have n4 : lw ≠ p := fun z => by rw [z, p3] at hlw; cases hlw
    have b4 : ExB p H (upd H4 p (.ins T.a_Web dx (wf2 n lw))) := (b2.trans (.of e4)).trans .upd
    have l5 : upd H4 p (.ins T.a_Web dx (wf2 n lw)) lw = some (.lst vw) := by rw [upd_ne n4]; exact h4
    have t5 : Tups (upd H4 p (.ins T.a_Web dx (wf2 n lw))) vw (ws.map wayV) := hT.exb b4 hp
    show tSeq _ _ _ _ (upd H4 p (.ins T.a_Web dx (wf2 n lw)))
    have p5 : upd H4 p (.ins T.a_Web dx (wf2 n lw)) p = some (.ins T.a_Web dx (wf2 n lw)) := upd_same
    generalize upd H4 p (.ins T.a_Web dx (wf2 n lw)) = H5 at b4 l5 t5 p5
    have fld5 : ∀ {σ : L2.St} {H' : Hp} {i : Nat}, Ex H5 H' → σ[i]? = some (some (.ref p)) → Ev (tFld K (tVar i) "ways") σ H' (.ref lw) := fun e h => ev_fld (ev_var h) (e _ _ p5) T.cl_Web T.na_ways (wf2_ways n lw)
    refine q_forL (a := lw) (xs := vw) (fld5 (Ex.refl _) rfl) (sq_of l5) (fun i σ' H' => ∃ r3 : Option V, σ' = [some (.ref p), some (.int (n : Int)), some (.ref lw0), r3, none, none, none] ∧ Ex H5 H') (fun H6 e6 => ⟨none, rfl, e6⟩) (fun i σ' H' _ ⟨_, _, e⟩ => sq_of (e _ _ l5)) ?_ ?_
    · rintro i x σ' H' hx ⟨r3, rfl, e⟩
      obtain ⟨qa, w, rfl, hwi, hmem, hqa⟩ := wayV_at (t5.ex e) hx
      have hends := hw.ends w hmem
      refine q_drop (ev_need (ev_var rfl) (e _ _ p5) (nm_look2 n lw) (wf2_many n lw) (ea_cons (ev_op (ev_var rfl) ev_c (rv_ixT (st_of hqa) rfl)) ea_nil) hends.1) fun H6 e6 => ?_
      refine s_drop (ev_need (ev_var rfl) (e6 _ _ (e _ _ p5)) (nm_look2 n lw) (wf2_many n lw) (ea_cons (ev_op (ev_var rfl) ev_c (rv_ixT (st_of (e6 _ _ hqa)) rfl)) ea_nil) hends.2) fun H7 e7 => ?_
      exact ⟨_, rfl, (e.trans e6).trans e7⟩
    rintro σ' H' ⟨r3, rfl, e6⟩
    refine q_forL (a := lw) (xs := vw) (fld5 e6 rfl) (sq_of (e6 _ _ l5)) (fun i σ' H' => ∃ r3 : Option V, σ' = [some (.ref p), some (.int (n : Int)), some (.ref lw0), r3, none, none, none] ∧ Ex H5 H') (fun H6 e7 => ⟨_, rfl, e6.trans e7⟩) (fun i σ' H' _ ⟨_, _, e⟩ => sq_of (e _ _ l5)) ?_ ?_
    · rintro i x σ' H' hx ⟨r3, rfl, e⟩
      obtain ⟨qa, w, rfl, hwi, hmem, hqa⟩ := wayV_at (t5.ex e) hx
      have hdel := hw.del w hmem
      refine s_when (b := false) (et_or (a := false) (et_is (et_test (ev_op (ev_op (ev_var rfl) ev_c (rv_ixT (st_of hqa) rfl)) ev_c rv_I0)) (decide_eq_false (by omega))) fun _ => et_is (et_test (ev_op (ev_op (ev_var rfl) ev_c (rv_ixT (st_of hqa) rfl)) ev_c rv_I0)) (decide_eq_false (by omega))) (fun z => by cases z) fun _ H7 e7 => ?_
      exact ⟨_, rfl, e.trans e7⟩
    rintro σ' H' ⟨r3', rfl, e7⟩
    refine q_asgK (el_wayPairs (fun w => (w.1, w.2.1)) (fld5 e7 rfl) (e7 _ _ l5) (t5.ex e7) hwl rfl (fun x => rfl) (fun x => rfl) (fun w => rfl) (fun w => rfl)) fun D1 H8 us1 hD1 e8 h8 t8 => ?_
    have e58 := e7.trans e8
    refine q_asgK (el_wayPairs (fun w => (w.2.1, w.1)) (fld5 e58 rfl) (e58 _ _ l5) (t5.ex e58) hwl rfl (fun x => rfl) (fun x => rfl) (fun w => rfl) (fun w => rfl)) fun D2 H9 us2 hD2 e9 h9 t9 => ?_
    have e59 := e58.trans e9
    have c1 : (comeTo n (edges ws)).length = n := comeTo_all hn1 (fun e he => by obtain ⟨w, hw2, rfl⟩ := List.mem_map.mp he; exact hw.ends w hw2) hw.fwd
    have c2 : (comeTo n (redges ws)).length = n := comeTo_all hn1 (fun e he => by obtain ⟨w, hw2, rfl⟩ := List.mem_map.mp he; exact ⟨(hw.ends w hw2).2, (hw.ends w hw2).1⟩) hw.bwd
    have len1 : (edges ws).length ≤ 100 := by unfold edges; rw [List.length_map]; omega
    have len2 : (redges ws).length ≤ 100 := by unfold redges; rw [List.length_map]; omega
    refine q_when (b := false) (et_or (a := false) (et_test (by
        obtain ⟨w0, wr, rfl⟩ := List.exists_cons_of_ne_nil hw.ne
        exact ev_tupsNil (f := fun (p : Nat × Nat) => [(p.1 : Int), (p.2 : Int)]) (ev_var rfl) (e9 _ _ h8) (t8.ex e9))) fun _ =>
      et_or (a := false) (et_is (et_test (ev_op (ev_callV (z := .int (n : Int)) (ea_cons (ev_var rfl) (ea_cons (ev_var rfl) ea_nil)) fun H1 e1 Q E k => ⟨n, D1, edges ws, us1, rfl, e1 _ _ (e9 _ _ h8), (t8.ex e9).ex e1, hn12, len1, by rw [c1]; exact k⟩) (ev_var rfl) rv_I0)) (decide_eq_false (by omega))) fun _ =>
      et_is (et_test (ev_op (ev_callV (z := .int (n : Int)) (ea_cons (ev_var rfl) (ea_cons (ev_var rfl) ea_nil)) fun H1 e1 Q E k => ⟨n, D2, redges ws, us2, rfl, e1 _ _ h9, t9.ex e1, hn12, len2, by rw [c2]; exact k⟩) (ev_var rfl) rv_I0)) (decide_eq_false (by omega))) (fun z => by cases z) fun _ H10 e10 => ?_
    have e510 := e59.trans e10
    refine q_fldK (C := RetOs n (fun _ => .lst [])) (ek_lcR (n := n) (fun _ => .lst []) (ea_cons (ev_var rfl) ea_nil) (by omega) (fun x => rfl) (fun i H1 e1 hi => et_true) fun i H1 e1 hi => by
      have r := el_lst (σ := (wipe [some (.ref p), some (.int (n : Int)), some (.ref lw0), r3', some (.ref D1), some (.ref D2), none] [6]).set 6 (some (.int (i : Int)))) (H := H1) ea_nil (by simp)
      exact fun H3 e3 Q q => r H3 e3 Q fun p H4 hp4 e4 h4 => q p H4 hp4 e4 h4) fun D H11 ps hD e11 h11 hN => fld_go (p := p) rfl T.cl_Web T.na_inner (e11 _ _ (e510 _ _ p5)) (by
        have h1 := putF_len ("many" : Str) (.int (n : Int)) []
        have h2 := putF_len ("ways" : Str) (.ref lw) (wf1 n)
        unfold wf2
        unfold wf1 at h2 ⊢
        simp only [List.length_nil] at h1
        omega) ?_
    have p10 := e510 _ _ p5
    have l10 := e510 _ _ l5
    have t10 := t5.ex e510
    have nDp : D ≠ p := fun z => by rw [z, p10] at hD; cases hD
    have nps : ∀ a ∈ ps, a ≠ p ∧ a ≠ lw ∧ a ≠ D := fun a ha => ⟨fun z => (by have := hN.fresh a ha; rw [z, p10] at this; cases this), fun z => (by have := hN.fresh a ha; rw [z, l10] at this; cases this), fun z => hN.out (z ▸ ha)⟩
    have b11 : ExB p H10 (upd H11 p (.ins T.a_Web dx (webF n lw D))) := (ExB.of e11).trans .upd
    have b0 : ExB p H H10 := b4.trans (.of e510)
    refine s_forL (a := lw) (xs := vw) (ev_fld (p := p) (ev_var rfl) upd_same T.cl_Web T.na_ways (by
      rw [lookup_putF, if_neg n_wi, wf2_ways])) (sq_of (b11 _ _ l10 n4)) (fun i σ' H' => ∃ r3 : Option V, σ' = [some (.ref p), some (.int (n : Int)), some (.ref lw0), r3, some (.ref D1), some (.ref D2), none] ∧ H' p = some (.ins T.a_Web dx (webF n lw D)) ∧ H' D = some (.lst (ps.map V.ref)) ∧ InnAt H' ps n (ws.take i) ∧ ExB p H10 H')
      (fun H12 e12 => ⟨_, rfl, e12 _ _ upd_same, e12 _ _ (by rw [upd_ne nDp]; exact h11), fun m hm => ?_, b11.trans (.of e12)⟩) (fun i σ' H' _ ⟨_, _, _, _, _, e⟩ => sq_of (e _ _ l10 n4)) ?_ ?_
    · obtain ⟨lm, hlm⟩ : ∃ lm, ps[m]? = some lm := ⟨ps[m]'(by rw [hN.len]; exact hm), List.getElem?_eq_getElem _⟩
      exact ⟨lm, [], hlm, e12 _ _ (by rw [upd_ne (nps lm (List.mem_of_getElem? hlm)).1]; exact hN.at_ m lm hlm), Tups.nil⟩
    · rintro i x σ' H' hx ⟨r3, rfl, hp', hD', hI, e⟩
      obtain ⟨qa, w, rfl, hwi, hmem, hqa⟩ := wayV_at (t10.exb e p10) hx
      obtain ⟨lm, vm, k1, k2, k3⟩ := hI _ (hw.ends w hmem).2
      have hvm : vm.length ≤ 60 := by
        have := k3.1
        rw [List.length_map] at this
        have h2 := inn_len (ws.take i) w.2.1
        rw [List.length_take] at h2
        omega
      have hmm := nps lm (List.mem_of_getElem? k1)
      refine s_appU (l := lm) (xs := vm) k2 (ev_op (ev_fld (ev_var rfl) hp' T.cl_Web T.na_inner (webF_inner n lw D)) (ev_op (ev_var rfl) ev_c (rv_ixT (st_of hqa) rfl)) (rv_ixL (sq_of hD') (at_nat (j := w.2.1) (by rw [List.getElem?_map, k1]; rfl)))) (eu_tup (ea_cons (ev_op (ev_var rfl) ev_c (rv_ixT (st_of hqa) rfl)) (ea_cons (ev_op (ev_var rfl) ev_c (rv_ixT (st_of hqa) rfl)) ea_nil)) (by simp)) (by omega) fun q2 H13 hq2 e13 h13 => ?_
      refine ⟨_, rfl, by rw [upd_ne (Ne.symm hmm.1)]; exact e13 _ _ hp', by rw [upd_ne (Ne.symm hmm.2.2)]; exact e13 _ _ hD', ?_, ?_⟩
      · exact InnAt.snoc (fun m hm => by obtain ⟨a, b, c1, c2, c3⟩ := hI m hm; exact ⟨a, b, c1, e13 _ _ c2, c3.ex e13⟩) hwi hN.nd k1 (e13 _ _ k2) (k3.ex e13) h13
      · intro b o hb hne
        have hbl : b ≠ lm := fun z => by have := hN.fresh lm (List.mem_of_getElem? k1); rw [← z, hb] at this; cases this
        rw [upd_ne hbl]
        exact e13 _ _ (e b o hb hne)
    · rintro σ' H' ⟨r3, rfl, hp', hD', hI, e⟩
      have hl0 := b0 _ _ hl n2
      have hl' := e _ _ hl0 n2
      have m1 : lw ≠ lw0 := fun z => by rw [z, l3] at hlw; cases hlw
      have m2 : D ≠ lw0 := fun z => by rw [z, hl0] at hD; cases hD
      refine q H' ⟨dx, lw, D, vw, ps.map V.ref, hp', e _ _ l10 n4, t10.exb e p10, hD', by rw [List.length_map, hN.len], fun m hm => ?_⟩ (b0.trans e) fun xs => ⟨dx, lw, D, vw, ps.map V.ref, by rw [upd_ne (Ne.symm n2)]; exact hp', by rw [upd_ne m1]; exact e _ _ l10 n4, (t10.exb e p10).upd hl', by rw [upd_ne m2]; exact hD', by rw [List.length_map, hN.len], fun m hm => ?_⟩
      · obtain ⟨lm, vm, k1, k2, k3⟩ := hI m hm
        rw [List.take_of_length_le (by omega)] at k3
        exact ⟨lm, vm, by rw [List.getElem?_map, k1]; rfl, k2, k3⟩
      · obtain ⟨lm, vm, k1, k2, k3⟩ := hI m hm
        rw [List.take_of_length_le (by omega)] at k3
        exact ⟨lm, vm, by rw [List.getElem?_map, k1]; rfl, by rw [upd_ne fun z => by have := hN.fresh lm (List.mem_of_getElem? k1); rw [z, hl0] at this; cases this]; exact k2, k3.upd hl'⟩
/-! ### lists of tuples told anew; webs made -/
def RetT (xss : List (List V)) (H : Hp) (Q : VK) : Prop := ∀ D H2 us, H D = none → Ex H H2 → H2 D = some (.lst us) → Tups H2 us xss → Q (.ref D) H2
theorem mo_t {xss : List (List V)} : Mo (RetT xss) := fun _ _ _ e k D H3 us hD e3 h3 t => k D H3 us (fresh_back e hD) (e.trans e3) h3 t
def RetW (C : Addr) (n : Nat) (ws : List Way) (H : Hp) (Q : VK) : Prop := ∀ p H2, H p = none → Ex H H2 → WebAt C H2 p n ws → Q (.ref p) H2
theorem mo_w {C : Addr} {n : Nat} {ws : List Way} : Mo (RetW C n ws) := fun _ _ _ e k p H3 hp e3 h => k p H3 (fresh_back e hp) (e.trans e3) h
/-- [tuple of each x for x in tuples] -/
theorem ek_lcT {α : Type} {f g : α → List V} {xs : List α} {vw : List V} {K : PySem.W.Frag} {σ : L2.St} {H : Hp} {tl te : TE} {j : Nat} {vs : List Nat} (d : α) (h : EvS K tl σ H vw) (hT : Tups H vw (xs.map f)) (hz : xs.length ≤ 40000)
    (hw : ∀ x, wipe ((wipe σ vs).set j (some x)) vs = wipe σ vs) (he : ∀ (x : α) (q : Addr) H1, Ex H H1 → x ∈ xs → H1 q = some (.tup (f x)) → EvU te ((wipe σ vs).set j (some (.ref q))) H1 (g x)) :
    EvK (tLc (iList K tl) (gName j) tYes te vs) σ H (RetT (xs.map g)) := by
  have hlen : vw.length = xs.length := hT.1.trans (List.length_map _)
  intro H1 e1 Q q
  refine ek_lcS (K := K) (fun n => (wipe σ vs).set j (some (vw.getD n .non))) (fun n => .tup (g (xs.getD n d))) h (by omega) (fun n x H2 e2 hx Q qq => by rw [getD_of hx] at qq; exact qq) (fun n x hx => hw _) (fun n x H2 e2 hx => et_true) (fun n x H2 e2 hx => ?_) H1 e1 Q ?_
  · obtain ⟨q, y, rfl, hy, hq⟩ := (hT.ex e2).at hx
    rw [List.getElem?_map] at hy
    obtain ⟨w, hw2, rfl⟩ := Option.map_eq_some_iff.mp hy
    rw [getD_of hx, getD_of hw2]
    have r := he w q H2 e2 (List.mem_of_getElem? hw2) hq
    exact fun H3 e3 Q q => r H3 e3 Q fun p H4 hp4 e4 h4 => q p H4 hp4 e4 h4
  · intro D H2 ps hD e2 h2 hn
    refine q D H2 _ hD e2 h2 ?_
    have t := tups_new hn
    rw [hlen, map_getD xs d g] at t
    exact t
theorem ea_consK {σ : L2.St} {H : Hp} {ta : TE} {tr : TA} {v : V} {C : Hp → VK → Prop} (h : Ev ta σ H v) (k : EvK ta σ H C) : True := trivial
/-- Web(n, ways): a web that is new -/
theorem ek_make {C : Addr} {σ : L2.St} {H : Hp} {E : XK} {ta tb : TE} {n : Nat} {ws : List Way} (ha : Ev ta σ H (.int (n : Int))) (hb : EvK tb σ H (RetT (ws.map wayV))) (hw : WebOk n ws) : EvK (tMake C (sp_Web_init C) [] E (tCons ta (tCons tb tNil))) σ H (RetW C n ws) := by
  intro H1 e1 Q q
  refine ha H1 e1 _ fun H2 e2 => hb H2 (e1.trans e2) _ fun D H3 us hD e3 h3 t3 => ?_
  intro x dx hx hdx hne
  have e13 := e2.trans e3
  have eX : Ex H3 (upd (upd H3 dx (.own x)) x (.ins C dx [])) := by
    intro b o hb
    rw [upd_ne (fun z => by rw [z, hx] at hb; cases hb), upd_ne (fun z => by rw [z, hdx] at hb; cases hb)]
    exact hb
  refine ⟨x, dx, D, n, ws, us, rfl, upd_same, eX _ _ h3, t3.ex eX, hw, fun H' hW hB _ => ⟨rfl, q x H' (fresh_back e13 hx) (fun b o hb => ?_) hW⟩⟩
  have hb3 := e13 _ _ hb
  exact hB b o (eX _ _ hb3) fun z => by rw [z, hx] at hb3; cases hb3
/-! ### lists of ways handed on -/
def RetTw (xss : List (List V)) (H : Hp) (Q : VK) : Prop := ∀ D H2 us, Ex H H2 → H2 D = some (.lst us) → Tups H2 us xss → Q (.ref D) H2
section
variable {K : PySem.W.Frag} {σ : L2.St} {H : Hp} {ta tb te : TE}
theorem ek_weak {xss : List (List V)} (h : EvK te σ H (RetT xss)) : EvK te σ H (RetTw xss) := fun H1 e Q q => h H1 e Q fun D H2 us _ e2 h2 t => q D H2 us e2 h2 t
theorem ek_stand {p : Addr} {us : List V} {xss : List (List V)} (ha : Ev ta σ H (.ref p)) (hp : H p = some (.lst us)) (hT : Tups H us xss) : EvK ta σ H (RetTw xss) := fun H1 e Q q => ha H1 e Q fun H2 e2 => q p H2 us e2 ((e.trans e2) _ _ hp) (hT.ex (e.trans e2))
theorem ek_makeW {C : Addr} {E : XK} {n : Nat} {ws : List Way} (ha : Ev ta σ H (.int (n : Int))) (hb : EvK tb σ H (RetTw (ws.map wayV))) (hw : WebOk n ws) : EvK (tMake C (sp_Web_init C) [] E (tCons ta (tCons tb tNil))) σ H (RetW C n ws) := by
  intro H1 e1 Q q
  refine ha H1 e1 _ fun H2 e2 => hb H2 (e1.trans e2) _ fun D H3 us e3 h3 t3 => ?_
  intro x dx hx hdx hne
  have e13 := e2.trans e3
  have eX : Ex H3 (upd (upd H3 dx (.own x)) x (.ins C dx [])) := by
    intro b o hb
    rw [upd_ne (fun z => by rw [z, hx] at hb; cases hb), upd_ne (fun z => by rw [z, hdx] at hb; cases hb)]
    exact hb
  refine ⟨x, dx, D, n, ws, us, rfl, upd_same, eX _ _ h3, t3.ex eX, hw, fun H' hW hB _ => ⟨rfl, q x H' (fresh_back e13 hx) (fun b o hb => ?_) hW⟩⟩
  have hb3 := e13 _ _ hb
  exact hB b o (eX _ _ hb3) fun z => by rw [z, hx] at hb3; cases hb3
theorem ek_callT {x : V} {xss : List (List V)} {sp : Sp} {E : XK} {Cc : Hp → VK → Prop} (m : Mo Cc) (ha : Ev ta σ H x) (hb : EvK tb σ H (RetTw xss)) (hs : ∀ D us H1, Ex H H1 → H1 D = some (.lst us) → Tups H1 us xss → ∀ Q E, Cc H1 Q → sp [x, .ref D] H1 Q E) :
    EvK (tCall sp [] E (tCons ta (tCons tb tNil))) σ H Cc := fun H1 e Q q =>
  ha H1 e _ fun H2 e2 => hb H2 (e.trans e2) _ fun D H3 us e3 h3 t3 => hs D us H3 ((e.trans e2).trans e3) h3 t3 Q E (m H1 H3 Q (e2.trans e3) q)
end
/-! ### the law's small readers -/
/-- a cell of the script -/
def cell (ns : List Int) (k : Int) : Int := if k < (ns.length : Int) then ns.getD k.toNat 0 else 0
theorem cell_nat (ns : List Int) (k : Nat) : cell ns (k : Int) = ns.getD k 0 := by
  unfold cell
  by_cases h : (k : Int) < (ns.length : Int)
  · rw [if_pos h]
    rfl
  · rw [if_neg h, List.getD_eq_getElem?_getD, List.getElem?_eq_none (by omega)]
    rfl
def sp_law_cell_at (K : PySem.W.Frag) : Sp := fun vs H Q _ => ∃ (a : Addr) (ns : List Int) (k : Int), vs = [.ref a, .int k] ∧ SqL K H a (ns.map V.int) ∧ 0 ≤ k ∧ RetV (.int (cell ns k)) H Q
abbrev s_law_cell_at : Stmt := (top 16)
abbrev N_law_cell_at : List Str := ["_law_script", "_law_k"]
theorem sc_law_cell_at : FnScope N_law_cell_at ["_law_script", "_law_k"] (defScope s_law_cell_at) := ⟨rfl, rfl, rfl, by decide +kernel, rfl, by decide +kernel, by decide +kernel⟩

theorem ok_law_cell_at (T : Txt K mg) : FnOk P w K mg base CX0 1 T.a_law_cell_at T.d_law_cell_at ["_law_script", "_law_k"] (sp_law_cell_at K) := by
  refine okN T.F_law_cell_at sc_law_cell_at (fun vs H Q E h => ?_) (fun cdv A outer s H vs Q E HR h => ?_)
  · obtain ⟨a, ns, k, rfl, _⟩ := h
    rfl
  · obtain ⟨a, ns, k, rfl, hS, h0, q⟩ := h
    refine ⟨_, (pss_cons (ps_if (pt_cmpR op_lt (pv 1) (pe_callB call_len_seq (by rfl) T.n_len boot_len (pa_cons (pv 0) pa_nil)) (nomark _))
  (pss_one (ps_ret (pe_ix ix_list (pv 0) (pv 1) (fun _ _ => rfl)))) pss_nil)
  (pss_one (ps_ret pe_int))), ?_⟩
    refine q_when (et_test (ev_op (ev_var rfl) (ev_len (ev_var rfl) hS) rv_I0)) (fun hb H1 e1 => ?_) (fun hb H1 e1 => ?_)
    · have hk : k < (ns.length : Int) := by simpa using of_decide_eq_true hb
      refine s_ret (v := .int (cell ns k)) (ev_op (ev_var rfl) (ev_var rfl) (rv_ixL (ex_l e1 hS) ?_)) fun H2 e2 => q H2 (e1.trans e2)
      have hj : k.toNat < ns.length := by omega
      refine at_of (j := k.toNat) (by omega) ?_
      unfold cell
      rw [if_pos hk, List.getElem?_map, List.getElem?_eq_getElem hj, List.getD_eq_getElem?_getD, List.getElem?_eq_getElem hj]
      rfl
    · have hk : ¬ k < (ns.length : Int) := by simpa using of_decide_eq_false hb
      refine s_ret (v := .int (cell ns k)) ?_ fun H2 e2 => q H2 (e1.trans e2)
      unfold cell
      rw [if_neg hk]
      exact ev_c
def sp_law_whole : Sp := fun vs H Q _ => ∃ i : Int, vs = [.int i] ∧ RetV (.bl true) H Q
/-! ### the law's drawing -/
def mixN (c : Int) (k : Nat) : Nat := ((c + 7919 * (k : Int) + 1) * 48271 % 2147483647).toNat
theorem mixN_eq (c : Int) (k : Nat) : (c + 7919 * (k : Int) + 1) * 48271 % 2147483647 = (mixN c k : Int) := by
  unfold mixN
  have := Int.emod_nonneg ((c + 7919 * (k : Int) + 1) * 48271) (by decide : (2147483647 : Int) ≠ 0)
  omega
theorem mixN_lt (c : Int) (k : Nat) : mixN c k < 2147483647 := by
  have := mixN_eq c k
  have h := Int.emod_lt_of_pos ((c + 7919 * (k : Int) + 1) * 48271) (by decide : (0 : Int) < 2147483647)
  omega
theorem mul_small {i j : Int} (h : -1000000 < j ∧ j < 1000000) : IntMulOk i j := CMul.ok (.inr (by omega))
theorem mul_smallL {i j : Int} (h : -1000000 < i ∧ i < 1000000) : IntMulOk i j := CMul.ok (.inl (by omega))
def sp_law_mixed : Sp := fun vs H Q _ => ∃ (c : Int) (k : Nat), vs = [.int c, .int (k : Int)] ∧ RetV (.int (mixN c k : Int)) H Q
abbrev s_law_mixed : Stmt := (top 17)
abbrev N_law_mixed : List Str := ["_law_cell", "_law_k"]
theorem sc_law_mixed : FnScope N_law_mixed ["_law_cell", "_law_k"] (defScope s_law_mixed) := ⟨rfl, rfl, rfl, by decide +kernel, rfl, by decide +kernel, by decide +kernel⟩

theorem ok_law_mixed (T : Txt K mg) : FnOk P w K mg base CX0 1 T.a_law_mixed T.d_law_mixed ["_law_cell", "_law_k"] sp_law_mixed := by
  refine okN T.F_law_mixed sc_law_mixed (fun vs H Q E h => ?_) (fun cdv A outer s H vs Q E HR h => ?_)
  · obtain ⟨c, k, rfl, _⟩ := h
    rfl
  · obtain ⟨c, k, rfl, q⟩ := h
    refine ⟨_, (pss_one (ps_ret (pe_op op_mod (pe_op op_mulG (pe_op op_add (pe_op op_add (pv 0) (pe_op op_mulG pe_int (pv 1))) pe_int) pe_int) pe_int))), ?_⟩
    refine s_ret (ev_is (ev_op (ev_op (ev_op (ev_op (ev_var rfl) (ev_op ev_c (ev_var rfl) (rv_I (mul_smallL (by omega)))) rv_I0) ev_c rv_I0) ev_c (rv_I (mul_small (by omega)))) ev_c (rv_I (by show (0 : Int) < 2147483647; decide))) (congrArg V.int (mixN_eq c k))) q
def dby (x : Nat) : Nat := if x % 3 = 0 then x / 3 % 5 else if x % 3 = 1 then x / 3 % 100 else x / 3 % 10000
theorem dby_lt (x : Nat) : dby x < 10000 := by
  unfold dby
  split
  · omega
  · split <;> omega
def sp_law_delay_by : Sp := fun vs H Q _ => ∃ x : Nat, vs = [.int (x : Int)] ∧ RetV (.int (dby x : Int)) H Q
abbrev s_law_delay_by : Stmt := (top 18)
abbrev N_law_delay_by : List Str := ["_law_number"]
theorem sc_law_delay_by : FnScope N_law_delay_by ["_law_number"] (defScope s_law_delay_by) := ⟨rfl, rfl, rfl, by decide +kernel, rfl, by decide +kernel, by decide +kernel⟩

theorem ok_law_delay_by (T : Txt K mg) : FnOk P w K mg base CX0 1 T.a_law_delay_by T.d_law_delay_by ["_law_number"] sp_law_delay_by := by
  refine okN T.F_law_delay_by sc_law_delay_by (fun vs H Q E h => ?_) (fun cdv A outer s H vs Q E HR h => ?_)
  · obtain ⟨x, rfl, _⟩ := h
    rfl
  · obtain ⟨x, rfl, q⟩ := h
    refine ⟨_, (pss_one (ps_ret (pe_ix ix_list (pe_lst (pa_cons (pe_op op_mod (pe_op op_fdiv (pv 0) pe_int) pe_int) (pa_cons (pe_op op_mod (pe_op op_fdiv (pv 0) pe_int) pe_int) (pa_cons (pe_op op_mod (pe_op op_fdiv (pv 0) pe_int) pe_int) pa_nil)))) (pe_op op_mod (pv 0) pe_int) (fun _ _ => rfl)))), ?_⟩
    have d3 : CDiv (x : Int) 3 := ⟨by decide, by decide⟩
    have p5 : (0 : Int) < 5 := by decide
    have p100 : (0 : Int) < 100 := by decide
    have pm : (0 : Int) < 10000 := by decide
    have p3 : (0 : Int) < 3 := by decide
    have hat : atI [V.int ((x : Int) / 3 % 5), V.int ((x : Int) / 3 % 100), V.int ((x : Int) / 3 % 10000)] ((x : Int) % 3) = some (.int (dby x : Int)) := by
      unfold dby
      by_cases e0 : x % 3 = 0
      · rw [if_pos e0, show (x : Int) % 3 = ((0 : Nat) : Int) by omega]
        refine (at_nat (j := 0) rfl).trans (congrArg (fun z => some (V.int z)) ?_)
        omega
      · by_cases e1 : x % 3 = 1
        · rw [if_neg e0, if_pos e1, show (x : Int) % 3 = ((1 : Nat) : Int) by omega]
          refine (at_nat (j := 1) rfl).trans (congrArg (fun z => some (V.int z)) ?_)
          omega
        · rw [if_neg e0, if_neg e1, show (x : Int) % 3 = ((2 : Nat) : Int) by omega]
          refine (at_nat (j := 2) rfl).trans (congrArg (fun z => some (V.int z)) ?_)
          omega
    refine s_ret (v := .int (dby x : Int)) (ev_opL1 (el_lst (ea_cons (ev_op (ev_op (ev_var rfl) ev_c (rv_I d3)) ev_c (rv_I p5)) (ea_cons (ev_op (ev_op (ev_var rfl) ev_c (rv_I d3)) ev_c (rv_I p100)) (ea_cons (ev_op (ev_op (ev_var rfl) ev_c (rv_I d3)) ev_c (rv_I pm)) ea_nil))) (by simp)) (fun H1 e1 => ev_op (ev_var rfl) ev_c (rv_I p3)) fun p H1 h1 e1 => rv_ixL (sq_of h1) hat) q
theorem many_ok (c : Int) : ∃ n : Nat, 1 ≤ n ∧ n ≤ 12 ∧ (if c / 6 % 8 = 1 then 7 + c / 48 % 6 else 1 + c % 6) = (n : Int) := by
  have h1 := Int.emod_nonneg (c / 48) (by decide : (6 : Int) ≠ 0)
  have h2 := Int.emod_lt_of_pos (c / 48) (by decide : (0 : Int) < 6)
  have h3 := Int.emod_nonneg c (by decide : (6 : Int) ≠ 0)
  have h4 := Int.emod_lt_of_pos c (by decide : (0 : Int) < 6)
  split
  · exact ⟨(7 + c / 48 % 6).toNat, by omega, by omega, by omega⟩
  · exact ⟨(1 + c % 6).toNat, by omega, by omega, by omega⟩
def sp_law_many (K : PySem.W.Frag) : Sp := fun vs H Q _ => ∃ (a : Addr) (ns : List Int), vs = [.ref a] ∧ SqL K H a (ns.map V.int) ∧ ∀ n : Nat, 1 ≤ n → n ≤ 12 → RetV (.int (n : Int)) H Q
abbrev s_law_many : Stmt := (top 19)
abbrev N_law_many : List Str := ["_law_script", "_law_cell"]
theorem sc_law_many : FnScope N_law_many ["_law_script"] (defScope s_law_many) := ⟨rfl, rfl, rfl, by decide +kernel, rfl, by decide +kernel, by decide +kernel⟩

theorem ok_law_many (T : Txt K mg) : FnOk P w K mg base CX0 2 T.a_law_many T.d_law_many ["_law_script"] (sp_law_many K) := by
  refine okN T.F_law_many sc_law_many (fun vs H Q E h => ?_) (fun cdv A outer s H vs Q E HR h => ?_)
  · obtain ⟨a, ns, rfl, _⟩ := h
    rfl
  · obtain ⟨a, ns, rfl, hS, q⟩ := h
    refine ⟨_, (pss_cons (ps_set (i := 1) sc_law_many.nd rfl (by first | exact Or.inl rfl | exact Or.inr rfl) (pe_call (ok_law_cell_at T) (HR.mono (by decide)) (by rfl) T.g_law_cell_at T.F_law_cell_at.kp T.b_law_cell_at .nil pass0 (pa_cons (pv 0) (pa_cons pe_int pa_nil))))
  (pss_cons (ps_if (pt_cmpR op_eq (pe_op op_mod (pe_op op_fdiv (pv 1) pe_int) pe_int) pe_int (nomark _))
  (pss_one (ps_ret (pe_op op_add pe_int (pe_op op_mod (pe_op op_fdiv (pv 1) pe_int) pe_int)))) pss_nil)
  (pss_one (ps_ret (pe_op op_add pe_int (pe_op op_mod (pv 1) pe_int)))))), ?_⟩
    refine q_asg (v := .int (cell ns 0)) (ev_callV (ea_cons (ev_var rfl) (ea_cons ev_c ea_nil)) fun H2 e2 Q E q => ⟨a, ns, 0, rfl, ex_l e2 hS, by decide, q⟩) fun H1 e1 => ?_
    have d6 : CDiv (cell ns 0) 6 := ⟨by decide, by decide⟩
    have d48 : CDiv (cell ns 0) 48 := ⟨by decide, by decide⟩
    have p8 : (0 : Int) < 8 := by decide
    have p6 : (0 : Int) < 6 := by decide
    obtain ⟨n, n1, n12, hn⟩ := many_ok (cell ns 0)
    refine q_when (b := decide (cell ns 0 / 6 % 8 = 1)) (et_is (et_test (ev_op (ev_op (ev_op (ev_var rfl) ev_c (rv_I d6)) ev_c (rv_I p8)) ev_c (rv_eq rfl))) (decide_eq_decide.mpr ⟨fun z => V.int.inj z, fun z => congrArg V.int z⟩)) (fun hb H2 e2 => ?_) (fun hb H2 e2 => ?_)
    · rw [if_pos (of_decide_eq_true hb)] at hn
      exact s_ret (ev_is (ev_op ev_c (ev_op (ev_op (ev_var rfl) ev_c (rv_I d48)) ev_c (rv_I p6)) rv_I0) (congrArg V.int hn)) fun H3 e3 => q n n1 n12 H3 ((e1.trans e2).trans e3)
    · rw [if_neg (of_decide_eq_false hb)] at hn
      exact s_ret (ev_is (ev_op ev_c (ev_op (ev_var rfl) ev_c (rv_I p6)) rv_I0) (congrArg V.int hn)) fun H3 e3 => q n n1 n12 H3 ((e1.trans e2).trans e3)
/-! ### webs by construction -/
structure WP (n B : Nat) (o : Nat → Nat) (ring : Bool) (i : Nat) (ws : List Way) : Prop where
  ends : ∀ w ∈ ws, w.1 < n ∧ w.2.1 < n
  del : ∀ w ∈ ws, w.2.2 ≤ B
  len : ws.length ≤ 2 * i
  rg : ring = true → ∀ k, k < i → (o k, o ((k + 1) % n)) ∈ edges ws
  tr : ring = false → ∀ k, k < i → 0 < k → ∃ a b, a < k ∧ b < k ∧ (o a, o k) ∈ edges ws ∧ (o k, o b) ∈ edges ws
theorem edges_sub {ws ws' : List Way} (h : ∀ w ∈ ws, w ∈ ws') : ∀ e ∈ edges ws, e ∈ edges ws' := fun e he => by
  obtain ⟨w, hw, rfl⟩ := List.mem_map.mp he
  exact List.mem_map.mpr ⟨w, h w hw, rfl⟩
theorem WP.zero {n B : Nat} {o : Nat → Nat} {ring : Bool} : WP n B o ring 0 [] := ⟨by simp, by simp, by simp, fun _ k h => by omega, fun _ k h => by omega⟩
theorem edge_in {ws : List Way} {a b d : Nat} (h : (a, b, d) ∈ ws) : (a, b) ∈ edges ws := mem_edges.mpr ⟨d, h⟩
theorem WP.ringStep {n B i d : Nat} {o : Nat → Nat} {ws : List Way} (h : WP n B o true i ws) (h1 : o i < n) (h2 : o ((i + 1) % n) < n) (hd : d ≤ B) : WP n B o true (i + 1) (ws ++ [(o i, o ((i + 1) % n), d)]) := by
  refine ⟨fun w hw => ?_, fun w hw => ?_, by rw [List.length_append]; have := h.len; simp only [List.length_cons, List.length_nil]; omega, fun _ k hk => ?_, fun z => by cases z⟩
  · rcases List.mem_append.mp hw with z | z
    · exact h.ends w z
    · rw [List.mem_singleton.mp z]
      exact ⟨h1, h2⟩
  · rcases List.mem_append.mp hw with z | z
    · exact h.del w z
    · rw [List.mem_singleton.mp z]
      exact hd
  · by_cases e : k = i
    · rw [e]
      exact edge_in (d := d) (List.mem_append_right _ (by simp))
    · exact edges_sub (fun w hw => List.mem_append_left _ hw) _ (h.rg rfl k (by omega))
theorem WP.treeStep {n B i d d' a b : Nat} {o : Nat → Nat} {ws : List Way} (h : WP n B o false i ws) (h1 : o i < n) (ha : o a < n) (hb : o b < n) (hai : a < i) (hbi : b < i) (hd : d ≤ B) (hd' : d' ≤ B) : WP n B o false (i + 1) (ws ++ [(o a, o i, d)] ++ [(o i, o b, d')]) := by
  refine ⟨fun w hw => ?_, fun w hw => ?_, by rw [List.length_append, List.length_append]; have := h.len; simp only [List.length_cons, List.length_nil]; omega, fun z => (by cases z), fun _ k hk h0 => ?_⟩
  · rcases List.mem_append.mp hw with z | z
    · rcases List.mem_append.mp z with z | z
      · exact h.ends w z
      · rw [List.mem_singleton.mp z]
        exact ⟨ha, h1⟩
    · rw [List.mem_singleton.mp z]
      exact ⟨h1, hb⟩
  · rcases List.mem_append.mp hw with z | z
    · rcases List.mem_append.mp z with z | z
      · exact h.del w z
      · rw [List.mem_singleton.mp z]
        exact hd
    · rw [List.mem_singleton.mp z]
      exact hd'
  · by_cases e : k = i
    · rw [e]
      exact ⟨a, b, hai, hbi, edge_in (d := d) (List.mem_append_left _ (List.mem_append_right _ (by simp))), edge_in (d := d') (List.mem_append_right _ (by simp))⟩
    · obtain ⟨x, y, q1, q2, q3, q4⟩ := h.tr rfl k (by omega) h0
      have sub := edges_sub (ws := ws) (ws' := ws ++ [(o a, o i, d)] ++ [(o i, o b, d')]) fun w hw => List.mem_append_left _ (List.mem_append_left _ hw)
      exact ⟨x, y, q1, q2, sub _ q3, sub _ q4⟩
theorem WP.treeSkip {n B : Nat} {o : Nat → Nat} {ws : List Way} (h : WP n B o false 0 ws) : WP n B o false 1 ws := ⟨h.ends, h.del, by have := h.len; omega, fun z => (by cases z), fun _ k hk h0 => by omega⟩
/-- what the second loop adds -/
structure WX (n B L : Nat) (ws vs : List Way) : Prop where
  ends : ∀ w ∈ vs, w.1 < n ∧ w.2.1 < n
  del : ∀ w ∈ vs, w.2.2 ≤ B
  sub : ∀ w ∈ ws, w ∈ vs
  len : vs.length ≤ L
theorem WX.snoc {n B L a b d : Nat} {ws vs : List Way} (h : WX n B L ws vs) (ha : a < n) (hb : b < n) (hd : d ≤ B) : WX n B (L + 1) ws (vs ++ [(a, b, d)]) := by
  refine ⟨fun w hw => ?_, fun w hw => ?_, fun w hw => List.mem_append_left _ (h.sub w hw), by rw [List.length_append]; have := h.len; simp only [List.length_cons, List.length_nil]; omega⟩
  · rcases List.mem_append.mp hw with z | z
    · exact h.ends w z
    · rw [List.mem_singleton.mp z]
      exact ⟨ha, hb⟩
  · rcases List.mem_append.mp hw with z | z
    · exact h.del w z
    · rw [List.mem_singleton.mp z]
      exact hd
theorem WP.web {n B : Nat} {ord : List Nat} {ring : Bool} {ws vs : List Way} {L : Nat} (h : WP n B (fun k => ord.getD k 0) ring n ws) (hv : WX n B L ws vs) (hL : L ≤ 60) (hB : B ≤ 9999) (n1 : 1 ≤ n) (n12 : n ≤ 12) (hr : n = 1 → ring = true) (hp : ord.Perm (List.range n)) : WebOk n vs := by
  have hlen : ord.length = n := by rw [hp.length_eq, List.length_range]
  have sub := edges_sub hv.sub
  have key : ∀ k, k < n → Reach (edges vs) (ord.getD 0 0) (ord.getD k 0) ∧ Reach (edges vs) (ord.getD k 0) (ord.getD 0 0) := by
    cases ring with
    | true =>
      have e : ∀ k, k < n → (ord.getD k 0, ord.getD ((k + 1) % n) 0) ∈ edges vs := fun k hk => sub _ (h.rg rfl k hk)
      have fwd : ∀ k, k < n → Reach (edges vs) (ord.getD 0 0) (ord.getD k 0) := by
        intro k
        induction k with
        | zero => exact fun _ => .refl _
        | succ k ih =>
          intro hk
          have z := e k (by omega)
          rw [Nat.mod_eq_of_lt hk] at z
          exact (ih (by omega)).step z
      have back : ∀ j k, k < n → j + k + 1 = n → Reach (edges vs) (ord.getD k 0) (ord.getD 0 0) := by
        intro j
        induction j with
        | zero =>
          intro k hk hj
          have z := e k hk
          rw [show k + 1 = n by omega, Nat.mod_self] at z
          exact .one z
        | succ j ih =>
          intro k hk hj
          have z := e k hk
          rw [Nat.mod_eq_of_lt (by omega)] at z
          exact (Reach.one z).trans (ih (k + 1) (by omega) (by omega))
      exact fun k hk => ⟨fwd k hk, back (n - 1 - k) k hk (by omega)⟩
    | false =>
      intro k
      induction k using Nat.strongRecOn with
      | _ k ih =>
        intro hk
        by_cases h0 : k = 0
        · rw [h0]
          exact ⟨.refl _, .refl _⟩
        · obtain ⟨a, b, q1, q2, q3, q4⟩ := h.tr rfl k hk (by omega)
          exact ⟨(ih a q1 (by omega)).1.step (sub _ q3), (Reach.one (sub _ q4)).trans (ih b q2 (by omega)).2⟩
  have at_ : ∀ m, m < n → ∃ k, k < n ∧ ord.getD k 0 = m := fun m hm => by
    have : m ∈ ord := hp.mem_iff.mpr (List.mem_range.mpr hm)
    obtain ⟨k, hk⟩ := List.mem_iff_getElem?.mp this
    exact ⟨k, by have := (List.getElem?_eq_some_iff.mp hk).1; omega, getD_of hk⟩
  have all : ∀ a b, a < n → b < n → Reach (edges vs) a b := fun a b ha hb => by
    obtain ⟨i, hi, rfl⟩ := at_ a ha
    obtain ⟨j, hj, rfl⟩ := at_ b hb
    exact (key i hi).2.trans (key j hj).1
  refine ⟨n1, n12, Nat.le_trans hv.len hL, hv.ends, fun w hw => Nat.le_trans (hv.del w hw) hB, fun z => ?_, fun m hm => all 0 m (by omega) hm, fun m hm => (all m 0 hm (by omega)).rev'⟩
  have nn : ws = [] := List.eq_nil_iff_forall_not_mem.mpr fun w hw => by
    have := hv.sub w hw
    rw [z] at this
    cases this
  cases ring with
  | true =>
    have := h.rg rfl 0 (by omega)
    rw [nn] at this
    cases this
  | false =>
    have n2 : 1 < n := by
      rcases Nat.lt_or_ge 1 n with z | z
      · exact z
      · have := hr (by omega)
        cases this
    obtain ⟨a, b, _, _, q3, _⟩ := h.tr rfl 1 n2 (by omega)
    rw [nn] at q3
    cases q3
/-- the same ways in another order -/
theorem WebOk.perm {n : Nat} {ws vs : List Way} (h : WebOk n ws) (hp : vs.Perm ws) : WebOk n vs := by
  have m1 : ∀ w, w ∈ vs ↔ w ∈ ws := fun w => hp.mem_iff
  have s1 : ∀ e ∈ edges ws, e ∈ edges vs := edges_sub fun w hw => (m1 w).mpr hw
  have s2 : ∀ e ∈ redges ws, e ∈ redges vs := fun e he => by
    obtain ⟨a, b⟩ := e
    rw [mem_re] at he ⊢
    exact s1 _ he
  exact ⟨h.n1, h.n12, by rw [hp.length_eq]; exact h.len, fun w hw => h.ends w ((m1 w).mp hw), fun w hw => h.del w ((m1 w).mp hw), fun z => h.ne (by
    rw [z] at hp
    exact List.perm_nil.mp hp.symm), fun m hm => (h.fwd m hm).mono s1, fun m hm => (h.bwd m hm).mono s2⟩
theorem rot_perm {α : Type} (l : List α) (t : Nat) : (l.drop t ++ l.take t).Perm l := List.perm_append_comm.trans (by rw [List.take_append_drop])
theorem os_nat {os : List Int} {n : Nat} (h : os.Perm ((List.range n).map Int.ofNat)) : ∃ ord : List Nat, os = ord.map (fun (m : Nat) => (m : Int)) ∧ ord.Perm (List.range n) := by
  have h2 := h.map Int.toNat
  have e : ((List.range n).map Int.ofNat).map Int.toNat = List.range n := by
    rw [List.map_map]
    conv => rhs; rw [← List.map_id (List.range n)]
    exact List.map_congr_left fun a _ => rfl
  rw [e] at h2
  refine ⟨os.map Int.toNat, ?_, h2⟩
  rw [List.map_map]
  conv => lhs; rw [← List.map_id os]
  refine List.map_congr_left fun a ha => ?_
  obtain ⟨m, _, rfl⟩ := List.mem_map.mp (h.mem_iff.mp ha)
  rfl
/-! ### rings.py -/
theorem natV_int (r : List Nat) : natV r = (r.map fun (m : Nat) => (m : Int)).map V.int := by
  unfold natV
  rw [List.map_map]
  rfl
theorem nodup_int {r : List Nat} (h : r.Nodup) : (r.map fun (m : Nat) => (m : Int)).Nodup := by
  rw [List.Nodup, List.pairwise_map]
  exact h.imp fun hne z => hne (by omega)
section
variable {K : PySem.W.Frag} {σ : L2.St} {H : Hp} {ta tb : TE}
theorem rv_isN {x : V} : RV rIsN x .non H (.bl (decide (x = .non))) := fun H1 _ _ q => ⟨rfl, q H1 (Ex.refl H1)⟩
theorem rv_isN_int {i : Int} : RV rIsN (.int i) .non H (.bl false) := fun H1 _ _ q => ⟨rfl, q H1 (Ex.refl H1)⟩
theorem ev_min {ns : List Int} {v : Int} (h : EvS K ta σ H (ns.map V.int)) (h1 : v ∈ ns) (h2 : ∀ y ∈ ns, v ≤ y) : Ev (tCB (rMin K) (tCons ta tNil)) σ H (.int v) := fun H1 e Q q =>
  h H1 e _ fun a H2 e2 hq => ⟨a, ns, rfl, hq, List.length_pos_iff.mpr (by intro z; rw [z] at h1; cases h1), fun m a1 a2 => by
    have : m = v := Int.le_antisymm (a2 _ h1) (h2 _ a1)
    rw [this]
    exact q H2 e2⟩
theorem eqV_nat (a b : Nat) : eqV (.int (a : Int)) (.int (b : Int)) = decide (a = b) := by
  show ((a : Int) == (b : Int)) = _
  by_cases h : a = b
  · subst h
    simp
  · rw [decide_eq_false h]
    apply beq_false_of_ne
    omega
theorem idxOf_le : ∀ (r : List Nat) (k m : Nat), r[k]? = some m → r.idxOf m ≤ k
  | [], k, m, h => by simp at h
  | x :: r, 0, m, h => by
    obtain rfl : x = m := by simpa using h
    rw [List.idxOf_cons]
    simp
  | x :: r, k + 1, m, h => by
    have := idxOf_le r k m (by simpa using h)
    rw [List.idxOf_cons]
    cases x == m
    · show r.idxOf m + 1 ≤ k + 1
      omega
    · exact Nat.zero_le _
theorem ev_index {p : Addr} {r : List Nat} {m : Nat} (ha : Ev ta σ H (.ref p)) (hp : H p = some (.lst (natV r))) (hb : EvA (tCons tb tNil) σ H [.int (m : Int)]) (h : m ∈ r) : Ev (tBM K "list" (rIndex K) ta (tCons tb tNil)) σ H (.int ((r.idxOf m : Nat) : Int)) := fun H1 e Q q =>
  ha H1 e _ fun H2 e2 => ⟨Or.inl ⟨rfl, _, sq_of (e2 _ _ (e _ _ hp))⟩, hb H2 (e.trans e2) _ fun H3 e3 => by
    have hi : r.idxOf m < r.length := List.idxOf_lt_length_of_mem h
    refine ⟨p, natV r, .int (m : Int), r.idxOf m, .int (m : Int), rfl, rfl, sq_of (e3 _ _ (e2 _ _ (e _ _ hp))), rfl, flat_natV r, natV_at (by rw [List.getElem?_eq_getElem hi]; exact congrArg some (List.getElem_idxOf hi)), by rw [eqV_nat]; simp, fun k z hk hz => ?_, q H3 (e2.trans e3)⟩
    have hk2 : k < r.length := by omega
    rw [natV_at (List.getElem?_eq_getElem hk2)] at hz
    obtain rfl := Option.some.inj hz
    rw [eqV_nat]
    apply decide_eq_false
    intro z
    have h1 : r.idxOf m ≤ k := idxOf_le r k m (by rw [List.getElem?_eq_getElem hk2, z])
    omega⟩
theorem cutV_drop (xs : List V) (k : Nat) : cutV xs (some (k : Int)) none = xs.drop k := by
  unfold cutV
  rw [HT.sIx_none, HT.sIx_nat]
  by_cases h : k ≤ xs.length
  · rw [Nat.min_eq_left h, List.take_of_length_le]
    rw [List.length_drop]
    omega
  · rw [Nat.min_eq_right (by omega), List.drop_eq_nil_of_le (Nat.le_refl _), List.drop_eq_nil_of_le (by omega), List.take_nil]
theorem cutV_take (xs : List V) (k : Nat) : cutV xs none (some (k : Int)) = xs.take k := by
  unfold cutV
  rw [HT.sIx_none, HT.sIx_nat, List.drop_zero, Nat.sub_zero]
  by_cases h : k ≤ xs.length
  · rw [Nat.min_eq_left h]
  · rw [Nat.min_eq_right (by omega), List.take_of_length_le (Nat.le_refl _), List.take_of_length_le (by omega)]
end
theorem Tups.drop {H : Hp} {vs : List V} {xss : List (List V)} (h : Tups H vs xss) (t : Nat) : Tups H (vs.drop t) (xss.drop t) := ⟨by rw [List.length_drop, List.length_drop, h.1], fun i x hx => by
  rw [List.getElem?_drop] at hx ⊢
  exact h.2 _ x hx⟩
theorem Tups.take {H : Hp} {vs : List V} {xss : List (List V)} (h : Tups H vs xss) (t : Nat) : Tups H (vs.take t) (xss.take t) := ⟨by rw [List.length_take, List.length_take, h.1], fun i x hx => by
  have hi : i < t := by
    have := (List.getElem?_eq_some_iff.mp hx).1
    rw [List.length_take] at this
    omega
  rw [List.getElem?_take_of_lt hi] at hx ⊢
  exact h.2 _ x hx⟩
theorem Tups.app {H : Hp} {vs vs' : List V} {xss xss' : List (List V)} (h : Tups H vs xss) (h' : Tups H vs' xss') : Tups H (vs ++ vs') (xss ++ xss') := ⟨by rw [List.length_append, List.length_append, h.1, h'.1], fun i x hx => by
  by_cases hi : i < xss.length
  · rw [List.getElem?_append_left hi] at hx
    rw [List.getElem?_append_left (by rw [h.1]; exact hi)]
    exact h.2 i x hx
  · rw [List.getElem?_append_right (by omega)] at hx
    rw [List.getElem?_append_right (by rw [h.1]; omega), h.1]
    exact h'.2 _ x hx⟩
theorem ex_lN {K : PySem.W.Frag} {H H' : Hp} {a : Addr} {xs : List V} (e : LamX.ExtN H H') (h : SqL K H a xs) : SqL K H' a xs := by
  rcases h with (h | ⟨o, h⟩) | h
  · exact Or.inl (Or.inl (e a _ h fun ps z => by cases z))
  · exact Or.inl (Or.inr ⟨o, e a _ h fun ps z => by cases z⟩)
  · exact Or.inr h
/-- sorted(range(n), key=..): an arrangement -/
theorem q_sortLam {σ : L2.St} {H : Hp} {D : Ends} {tz : TS} {P0 : Addr} {i j ic : Nat} {n : Nat} {c : Int} (h1 : σ[j]? = some (some (.int (n : Int)))) (h2 : σ[ic]? = some (some (.int c))) (hT : LamX.Tabs (lamT P0) H) (hn : n ≤ 1000)
    (k : ∀ (ord : List Nat) (p : Addr) (H2 : Hp), LamX.ExtN H H2 → ord.Perm (List.range n) → H2 p = some (.lst (natV ord)) → tz D (σ.set i (some (.ref p))) H2) :
    tSeq (tAsg (tSortLam (lamT P0) ic (tCB (fun (vs : List V) (H : Hp) (Q : VK) => ∃ j, vs = [V.int j] ∧ ∀ p, H p = none → Q (V.ref p) (upd H p (.rng 0 j))) (tCons (tVar j) tNil))) (gName i)) tz D σ H := by
  refine ⟨_, h1, (n : Int), rfl, fun r hr => ⟨r, (n : Int), c, rfl, upd_same, by omega, by omega, h2, hT.ext (Ex.new hr), fun os p H2 eN hp hp2 => ?_⟩⟩
  rw [Int.toNat_natCast] at hp
  obtain ⟨ord, e, ho⟩ := os_nat hp
  refine k ord p _ ((LamX.ExtN.of (Ex.new hr)).trans (eN.trans (LamX.ExtN.of (Ex.new hp2)))) ho ?_
  rw [upd_same, e, natV_int]
def RetWays (n B : Nat) (H : Hp) (Q : VK) : Prop := ∀ ws D H2 us, WebOk n ws → (∀ w ∈ ws, w.2.2 ≤ B) → ws.length ≤ 40 → LamX.ExtN H H2 → H2 D = some (.lst us) → Tups H2 us (ws.map wayV) → Q (.ref D) H2
theorem mo_ways {n B : Nat} : Mo (RetWays n B) := fun _ _ _ e k ws D H3 us a b c e3 d f => k ws D H3 us a b c ((LamX.ExtN.of e).trans e3) d f
def sp_law_ways (K : PySem.W.Frag) (P0 : Addr) : Sp := fun vs H Q _ => ∃ (a : Addr) (ns : List Int) (n : Nat), vs = [.ref a, .int (n : Int)] ∧ SqL K H a (ns.map V.int) ∧ LamX.Tabs (lamT P0) H ∧ 1 ≤ n ∧ n ≤ 12 ∧ RetWays n 9999 H Q
abbrev s_law_ways : Stmt := (top 20)
abbrev N_law_ways : List Str := ["_law_script", "_law_many_here", "_law_cell", "_law_order", "_law_ways_here", "_law_k", "_law_number", "_law_turn"]
theorem sc_law_ways : FnScope N_law_ways ["_law_script", "_law_many_here"] (defScope s_law_ways) := ⟨rfl, rfl, rfl, by decide +kernel, rfl, by decide +kernel, by decide +kernel⟩

theorem ok_law_ways (T : Txt K mg) (TB : LamX.TabB base mg T.c_lw T.P_lw) : FnOk P w K mg base CX0 2 T.a_law_ways T.d_law_ways ["_law_script", "_law_many_here"] (sp_law_ways K T.P_lw) := by
  refine okL T.F_law_ways T.code_lw sc_law_ways (fun vs H Q E h => ?_) (fun A outer s H vs Q E HR h => ?_)
  · obtain ⟨a, ns, n, rfl, _⟩ := h
    rfl
  · obtain ⟨a, ns, n, rfl, hS0, hTb, n1, n12, q⟩ := h
    have ccell : ∀ (ns : List Int) (σ : L2.St) (H1 : Hp) (t : TE) (k : Nat), SqL K H1 a (ns.map V.int) → σ[0]? = some (some (.ref a)) → Ev t σ H1 (.int (k : Int)) → Ev (tCall (sp_law_cell_at K) [] E0 (tCons (tVar 0) (tCons t tNil))) σ H1 (.int (cell ns k)) := fun ns σ H1 t k hS hσ ht =>
      ev_callV (ea_cons (ev_var hσ) (ea_cons ht ea_nil)) fun H2 e2 Q E q => ⟨a, ns, k, rfl, ex_l e2 hS, by omega, q⟩
    have cmix : ∀ (σ : L2.St) (H1 : Hp) (t1 t2 : TE) (c : Int) (k : Nat), Ev t1 σ H1 (.int c) → Ev t2 σ H1 (.int (k : Int)) → Ev (tCall sp_law_mixed [] E0 (tCons t1 (tCons t2 tNil))) σ H1 (.int (mixN c k : Int)) := fun σ H1 t1 t2 c k h1 h2 =>
      ev_callV (ea_cons h1 (ea_cons h2 ea_nil)) fun H2 e2 Q E q => ⟨c, k, rfl, q⟩
    have dl : ∀ (σ : L2.St) (H1 : Hp) (t : TE) (x : Nat), True → Ev t σ H1 (.int (x : Int)) → Ev (tCall sp_law_delay_by [] E0 (tCons t tNil)) σ H1 (.int (dby x : Int)) := fun σ H1 t x _ h => ev_callV (ea_cons h ea_nil) fun H2 e2 Q E q => ⟨x, rfl, q⟩
    have dlt : ∀ x, dby x ≤ 9999 := fun x => by have := dby_lt x; omega
    have dv : ∀ (σ : L2.St) (H1 : Hp) (t : TE) (x k : Nat), 0 < k → k < 1073741824 → Ev t σ H1 (.int (x : Int)) → Ev (tOp (rI CDiv fun i j => V.int (i / j)) t (tC (.int (k : Int)))) σ H1 (.int ((x / k : Nat) : Int)) := fun σ H1 t x k h0 hk h =>
      ev_is (ev_op h ev_c (rv_I ⟨by omega, by omega⟩)) (by rw [Int.natCast_ediv])
    have md : ∀ (σ : L2.St) (H1 : Hp) (t u : TE) (x k : Nat), 0 < k → Ev t σ H1 (.int (x : Int)) → Ev u σ H1 (.int (k : Int)) → Ev (tOp (rI (fun x j => 0 < j) fun i j => V.int (i % j)) t u) σ H1 (.int ((x % k : Nat) : Int)) := fun σ H1 t u x k h0 h hu =>
      ev_is (ev_op h hu (rv_I (by show (0 : Int) < (k : Int); omega))) (by rw [Int.natCast_emod])
    refine ⟨_, (pss_cons (ps_set (i := 2) sc_law_ways.nd rfl (by first | exact Or.inl rfl | exact Or.inr rfl) (pe_call (ok_law_cell_at T) (HR.mono (by decide)) (by rfl) T.g_law_cell_at T.F_law_cell_at.kp T.b_law_cell_at .nil pass0 (pa_cons (pv 0) (pa_cons pe_int pa_nil))))
  (pss_cons (ps_set (i := 3) sc_law_ways.nd rfl (by first | exact Or.inl rfl | exact Or.inr rfl) (pe_sortedLam (T := lamT T.P_lw) (ic := 2) rfl (by rfl) T.n_sorted TB rfl (List.mem_singleton.mpr (by rfl)) (fun p hp _ => (by rw [List.mem_singleton.mp hp]; rfl)) (by rfl) (by show ∀ y ∈ Scope.names _, y.2 = NameKind.free → (defScope (top 20)).names.lookup y.1 = some NameKind.cell ∨ (defScope (top 20)).names.lookup y.1 = some NameKind.free; decide +kernel) (fun _ _ _ _ _ _ => by rfl) rfl rfl rfl (by decide +kernel) (by rfl) (by rfl) (by rfl) (by rfl) HR (pe_callTy cr_range1 (by rfl) T.n_range (by decide +kernel) (pa_cons (pv 1) pa_nil))))
  (pss_cons (ps_set (i := 4) sc_law_ways.nd rfl (by first | exact Or.inl rfl | exact Or.inr rfl) (pe_lst pa_nil))
  (pss_cons (ps_for PassesOwn.never rfl (pi_range1 (by rfl) T.n_range (pa_cons (pv 1) pa_nil)) (pg_name (i := 5) sc_law_ways.nd rfl (by first | exact Or.inl rfl | exact Or.inr rfl))
  (pss_cons (ps_set (i := 6) sc_law_ways.nd rfl (by first | exact Or.inl rfl | exact Or.inr rfl) (pe_call (ok_law_mixed T) (HR.mono (by decide)) (by rfl) T.g_law_mixed T.F_law_mixed.kp T.b_law_mixed .nil pass0 (pa_cons (pe_call (ok_law_cell_at T) (HR.mono (by decide)) (by rfl) T.g_law_cell_at T.F_law_cell_at.kp T.b_law_cell_at .nil pass0 (pa_cons (pv 0) (pa_cons pe_int pa_nil))) (pa_cons (pv 5) pa_nil))))
  (pss_one (ps_if (PW.pt (pw_or (pt_cmpR op_eq (pv 1) pe_int (nomark _)) (pw_or1 (pt_cmpR op_eq (pe_op op_mod (pe_op op_fdiv (pv 2) pe_int) pe_int) pe_int (nomark _)))))
  (pss_one (ps_expr (pe_bm PySem.F.plainAttrs_list PySem.F.slot_list_append PySem.F.type_list_append mt_append (pv 4) (pa_cons (pe_tup (pa_cons (pe_ix ix_list (pv 3) (pv 5) (fun _ _ => rfl)) (pa_cons (pe_ix ix_list (pv 3) (pe_op op_mod (pe_op op_add (pv 5) pe_int) (pv 1)) (fun _ _ => rfl)) (pa_cons (pe_call (ok_law_delay_by T) (HR.mono (by decide)) (by rfl) T.g_law_delay_by T.F_law_delay_by.kp T.b_law_delay_by .nil pass0 (pa_cons (pv 6) pa_nil)) pa_nil)))) pa_nil)))) (pss_one (ps_if (pt_cmpR op_gt (pv 5) pe_int (nomark _))
  (pss_cons (ps_expr (pe_bm PySem.F.plainAttrs_list PySem.F.slot_list_append PySem.F.type_list_append mt_append (pv 4) (pa_cons (pe_tup (pa_cons (pe_ix ix_list (pv 3) (pe_op op_mod (pe_op op_fdiv (pv 6) pe_int) (pv 5)) (fun _ _ => rfl)) (pa_cons (pe_ix ix_list (pv 3) (pv 5) (fun _ _ => rfl)) (pa_cons (pe_call (ok_law_delay_by T) (HR.mono (by decide)) (by rfl) T.g_law_delay_by T.F_law_delay_by.kp T.b_law_delay_by .nil pass0 (pa_cons (pe_op op_fdiv (pv 6) pe_int) pa_nil)) pa_nil)))) pa_nil)))
  (pss_one (ps_expr (pe_bm PySem.F.plainAttrs_list PySem.F.slot_list_append PySem.F.type_list_append mt_append (pv 4) (pa_cons (pe_tup (pa_cons (pe_ix ix_list (pv 3) (pv 5) (fun _ _ => rfl)) (pa_cons (pe_ix ix_list (pv 3) (pe_op op_mod (pe_op op_fdiv (pv 6) pe_int) (pv 5)) (fun _ _ => rfl)) (pa_cons (pe_call (ok_law_delay_by T) (HR.mono (by decide)) (by rfl) T.g_law_delay_by T.F_law_delay_by.kp T.b_law_delay_by .nil pass0 (pa_cons (pe_op op_fdiv (pv 6) pe_int) pa_nil)) pa_nil)))) pa_nil))))) pss_nil))))))
  (pss_cons (ps_for PassesOwn.never rfl (pi_range1 (by rfl) T.n_range (pa_cons (pe_op op_mod (pe_op op_fdiv (pv 2) pe_int) pe_int) pa_nil)) (pg_name (i := 5) sc_law_ways.nd rfl (by first | exact Or.inl rfl | exact Or.inr rfl))
  (pss_cons (ps_set (i := 6) sc_law_ways.nd rfl (by first | exact Or.inl rfl | exact Or.inr rfl) (pe_call (ok_law_mixed T) (HR.mono (by decide)) (by rfl) T.g_law_mixed T.F_law_mixed.kp T.b_law_mixed .nil pass0 (pa_cons (pe_call (ok_law_cell_at T) (HR.mono (by decide)) (by rfl) T.g_law_cell_at T.F_law_cell_at.kp T.b_law_cell_at .nil pass0 (pa_cons (pv 0) (pa_cons (pe_op op_add pe_int (pe_op op_mod (pv 5) pe_int)) pa_nil))) (pa_cons (pv 5) pa_nil))))
  (pss_one (ps_expr (pe_bm PySem.F.plainAttrs_list PySem.F.slot_list_append PySem.F.type_list_append mt_append (pv 4) (pa_cons (pe_tup (pa_cons (pe_op op_mod (pv 6) (pv 1)) (pa_cons (pe_op op_mod (pe_op op_fdiv (pv 6) pe_int) (pv 1)) (pa_cons (pe_call (ok_law_delay_by T) (HR.mono (by decide)) (by rfl) T.g_law_delay_by T.F_law_delay_by.kp T.b_law_delay_by .nil pass0 (pa_cons (pe_op op_fdiv (pv 6) pe_int) pa_nil)) pa_nil)))) pa_nil))))))
  (pss_cons (ps_set (i := 7) sc_law_ways.nd rfl (by first | exact Or.inl rfl | exact Or.inr rfl) (pe_op op_mod (pe_call (ok_law_cell_at T) (HR.mono (by decide)) (by rfl) T.g_law_cell_at T.F_law_cell_at.kp T.b_law_cell_at .nil pass0 (pa_cons (pv 0) (pa_cons pe_int pa_nil))) (pe_callB call_len_seq (by rfl) T.n_len boot_len (pa_cons (pv 4) pa_nil))))
  (pss_one (ps_ret (pe_op op_cat (pe_slice sl_list (pv 4) (po_some (pv 7)) po_none) (pe_slice sl_list (pv 4) po_none (po_some (pv 7)))))))))))), ?_⟩
    refine q_asg (v := .int (cell ns ((1 : Nat) : Int))) (ccell ns _ _ _ 1 hS0 rfl ev_c) fun H1 e1 => ?_
    refine q_sortLam (n := n) rfl rfl (hTb.ext e1) (by omega) fun ord po H2 eN hperm hpo => ?_
    have eN2 : LamX.ExtN H H2 := (LamX.ExtN.of e1).trans eN
    have hS := ex_lN eN2 hS0
    have olen : ord.length = n := by rw [hperm.length_eq, List.length_range]
    have oat : ∀ k, k < n → (natV ord)[k]? = some (.int ((ord.getD k 0 : Nat) : Int)) := fun k hk => natV_at (by rw [List.getD_eq_getElem?_getD, List.getElem?_eq_getElem (by omega)]; rfl)
    have olt : ∀ k, k < n → ord.getD k 0 < n := fun k hk => by
      have : ord.getD k 0 ∈ ord := by
        rw [List.getD_eq_getElem?_getD, List.getElem?_eq_getElem (by omega)]
        exact List.getElem_mem _
      exact List.mem_range.mp (hperm.mem_iff.mp this)
    have oev : ∀ (σ : L2.St) (H3 : Hp) (t : TE) (k : Nat), Ex H2 H3 → σ[3]? = some (some (.ref po)) → k < n → Ev t σ H3 (.int (k : Int)) → Ev (tOp (rIxL K) (tVar 3) t) σ H3 (.int ((ord.getD k 0 : Nat) : Int)) := fun σ H3 t k e hσ hk h =>
      ev_op (ev_var hσ) h (rv_ixL (sq_of (e _ _ hpo)) (at_nat (oat k hk)))
    refine q_asgL (el_lst ea_nil (by simp)) fun l H3 hl e3 h3 => ?_
    let ring : Bool := decide (n = 1) || decide (cell ns ((1 : Nat) : Int) / 12 % 2 = 0)
    refine q_forR1 (n := (n : Int)) (ea_cons (ev_var rfl) ea_nil) ⟨by omega, by omega⟩ (fun i σ' H' => ∃ (r5 r6 : Option V) (ws : List Way) (us : List V), σ' = [some (.ref a), some (.int (n : Int)), some (.int (cell ns ((1 : Nat) : Int))), some (.ref po), some (.ref l), r5, r6, none] ∧ H' l = some (.lst us) ∧ Tups H' us (ws.map wayV) ∧ WP n 9999 (fun k => ord.getD k 0) ring i ws ∧ Ex H2 H')
      (fun H4 e4 => ⟨none, none, [], [], rfl, e4 _ _ h3, Tups.nil, WP.zero, e3.trans e4⟩) ?_ ?_
    · rintro i σ' H' hi ⟨r5, r6, ws, us, rfl, hl', hT, hP, e⟩
      have hi2 : i < n := by omega
      have ulen : us.length = ws.length := hT.1.trans (List.length_map _)
      have wlen := hP.len
      generalize hx : mixN (cell ns ((2 : Nat) : Int)) i = x
      refine q_asg (v := .int (x : Int)) (ev_is (cmix _ _ _ _ _ i (ccell ns _ _ _ 2 (ex_l e hS) rfl ev_c) (ev_var rfl)) (by rw [hx])) fun H4 e4 => ?_
      refine s_if (b := ring) (et_or (a := decide (n = 1)) (et_is (et_test (ev_op (ev_var rfl) ev_c (rv_eq rfl))) (decide_eq_decide.mpr ⟨fun z => by have := V.int.inj z; omega, fun z => by rw [z]; rfl⟩)) fun _ => et_is (et_test (ev_op (ev_op (ev_op (ev_var rfl) ev_c (rv_I ⟨by decide, by decide⟩)) ev_c (rv_I (by show (0 : Int) < 2; decide))) ev_c (rv_eq rfl))) (decide_eq_decide.mpr ⟨fun z => V.int.inj z, fun z => congrArg V.int z⟩)) (fun hb H5 e5 => ?_) (fun hb H5 e5 => ?_)
      · have e45 := e4.trans e5
        have eX := e.trans e45
        have hmod : (i + 1) % n < n := Nat.mod_lt _ (by omega)
        refine s_appU (l := l) (e45 _ _ hl') (ev_var rfl) (ys := wayV (ord.getD i 0, ord.getD ((i + 1) % n) 0, dby x)) (eu_tup (ea_cons (oev _ _ _ _ eX rfl hi2 (ev_var rfl)) (ea_cons (oev _ _ _ _ eX rfl hmod (md _ _ _ _ (i + 1) n (by omega) (ev_is (ev_op (ev_var rfl) ev_c rv_I0) (by rfl)) (ev_var rfl))) (ea_cons (dl _ _ _ x trivial (ev_var rfl)) ea_nil))) (by show 3 ≤ 100000; decide)) (by omega) fun q2 H6 hq2 e6 h6 => ?_
        rw [hb] at hP
        refine ⟨_, _, ws ++ [(ord.getD i 0, ord.getD ((i + 1) % n) 0, dby x)], _, rfl, upd_same, ?_, by rw [hb]; exact hP.ringStep (olt i hi2) (olt _ hmod) (dlt x), Ex.mut (eX.trans e6) (by exact hl)⟩
        rw [List.map_append]
        exact ((hT.ex (e45.trans e6)).upd (e6 _ _ (e45 _ _ hl'))).snoc (by rw [upd_ne fun z => by rw [z, e6 _ _ (e45 _ _ hl')] at h6; cases h6]; exact h6)
      · have e45 := e4.trans e5
        have eX := e.trans e45
        rw [hb] at hP
        refine s_when (b := decide (0 < i)) (et_is (et_test (ev_op (ev_var rfl) ev_c rv_I0)) (decide_eq_decide.mpr (by omega))) (fun hb2 H6 e6 => ?_) (fun hb2 H6 e6 => ?_)
        · have h0 : 0 < i := of_decide_eq_true hb2
          have e46 := e45.trans e6
          have eX6 := eX.trans e6
          have l1 : x / 7 % i < i := Nat.mod_lt _ h0
          have l2 : x / 512 % i < i := Nat.mod_lt _ h0
          refine q_appU (l := l) (e46 _ _ hl') (ev_var rfl) (ys := wayV (ord.getD (x / 7 % i) 0, ord.getD i 0, dby (x / 64))) (eu_tup (ea_cons (oev _ _ _ _ eX6 rfl (by omega) (md _ _ _ _ _ i h0 (dv _ _ _ x 7 (by decide) (by decide) (ev_var rfl)) (ev_var rfl))) (ea_cons (oev _ _ _ _ eX6 rfl hi2 (ev_var rfl)) (ea_cons (dl _ _ _ (x / 64) trivial (dv _ _ _ x 64 (by decide) (by decide) (ev_var rfl))) ea_nil))) (by show 3 ≤ 100000; decide)) (by omega) fun q2 H7 hq2 e7 h7 => ?_
          have hT7 : Tups (upd H7 l (.lst (us ++ [.ref q2]))) (us ++ [.ref q2]) ((ws ++ [(ord.getD (x / 7 % i) 0, ord.getD i 0, dby (x / 64))]).map wayV) := by
            rw [List.map_append]
            exact ((hT.ex (e46.trans e7)).upd (e7 _ _ (e46 _ _ hl'))).snoc (by rw [upd_ne fun z => by rw [z, e7 _ _ (e46 _ _ hl')] at h7; cases h7]; exact h7)
          have eX7 : Ex H2 (upd H7 l (.lst (us ++ [.ref q2]))) := Ex.mut (eX6.trans e7) hl
          have l7 : upd H7 l (.lst (us ++ [.ref q2])) l = some (.lst (us ++ [.ref q2])) := upd_same
          generalize upd H7 l (.lst (us ++ [.ref q2])) = HX at hT7 eX7 l7
          refine s_appU (l := l) l7 (ev_var rfl) (ys := wayV (ord.getD i 0, ord.getD (x / 512 % i) 0, dby (x / 4096))) (eu_tup (ea_cons (oev _ _ _ _ eX7 rfl hi2 (ev_var rfl)) (ea_cons (oev _ _ _ _ eX7 rfl (by omega) (md _ _ _ _ _ i h0 (dv _ _ _ x 512 (by decide) (by decide) (ev_var rfl)) (ev_var rfl))) (ea_cons (dl _ _ _ (x / 4096) trivial (dv _ _ _ x 4096 (by decide) (by decide) (ev_var rfl))) ea_nil))) (by show 3 ≤ 100000; decide)) (by rw [List.length_append]; show us.length + 1 < 100000; omega) fun q3 H8 hq3 e8 h8 => ?_
          refine ⟨_, _, ws ++ [(ord.getD (x / 7 % i) 0, ord.getD i 0, dby (x / 64))] ++ [(ord.getD i 0, ord.getD (x / 512 % i) 0, dby (x / 4096))], _, rfl, upd_same, ?_, by rw [hb]; exact hP.treeStep (olt i hi2) (olt _ (by omega)) (olt _ (by omega)) l1 l2 (dlt _) (dlt _), Ex.mut (eX7.trans e8) hl⟩
          rw [List.map_append]
          exact ((hT7.ex e8).upd (e8 _ _ l7)).snoc (by rw [upd_ne fun z => by rw [z, e8 _ _ l7] at h8; cases h8]; exact h8)
        · have h0 : i = 0 := by
            have := of_decide_eq_false hb2
            omega
          subst h0
          have e46 := e45.trans e6
          exact ⟨_, _, ws, us, rfl, e46 _ _ hl', hT.ex e46, by rw [hb]; exact hP.treeSkip, e.trans e46⟩
    rintro σ' H4 ⟨r5, r6, ws, us, rfl, hl4, hT4, hP, e4⟩
    generalize hL : (cell ns ((1 : Nat) : Int) / 24 % 13).toNat = L
    have hLe : cell ns ((1 : Nat) : Int) / 24 % 13 = (L : Int) := by
      have := Int.emod_nonneg (cell ns ((1 : Nat) : Int) / 24) (by decide : (13 : Int) ≠ 0)
      omega
    have hLlt : L < 13 := by
      have := Int.emod_lt_of_pos (cell ns ((1 : Nat) : Int) / 24) (by decide : (0 : Int) < 13)
      omega
    have wlen := hP.len
    refine q_forR1 (n := (L : Int)) (ea_cons (ev_is (ev_op (ev_op (ev_var rfl) ev_c (rv_I ⟨by decide, by decide⟩)) ev_c (rv_I (by show (0 : Int) < 13; decide))) (congrArg V.int hLe)) ea_nil) ⟨by omega, by omega⟩ (fun i σ' H' => ∃ (r5 r6 : Option V) (vs : List Way) (us : List V), σ' = [some (.ref a), some (.int (n : Int)), some (.int (cell ns ((1 : Nat) : Int))), some (.ref po), some (.ref l), r5, r6, none] ∧ H' l = some (.lst us) ∧ Tups H' us (vs.map wayV) ∧ WX n 9999 (ws.length + i) ws vs ∧ Ex H2 H')
      (fun H5 e5 => ⟨r5, r6, ws, us, rfl, e5 _ _ hl4, hT4.ex e5, ⟨hP.ends, hP.del, fun w hw => hw, Nat.le_refl _⟩, e4.trans e5⟩) ?_ ?_
    · rintro i σ' H' hi ⟨r5, r6, vs, us, rfl, hl', hT, hX, e⟩
      have ulen : us.length = vs.length := hT.1.trans (List.length_map _)
      have vlen := hX.len
      generalize hx : mixN (cell ns ((3 + i % 6 : Nat) : Int)) i = x
      refine q_asg (v := .int (x : Int)) (ev_is (cmix _ _ _ _ _ i (ccell ns _ _ _ (3 + i % 6) (ex_l e hS) rfl (ev_is (ev_op ev_c (md _ _ _ _ i 6 (by decide) (ev_var rfl) ev_c) rv_I0) (by rw [Int.natCast_add]; rfl))) (ev_var rfl)) (by rw [hx])) fun H5 e5 => ?_
      have m1 : x % n < n := Nat.mod_lt _ (by omega)
      have m2 : x / 16 % n < n := Nat.mod_lt _ (by omega)
      refine s_appU (l := l) (e5 _ _ hl') (ev_var rfl) (ys := wayV (x % n, x / 16 % n, dby (x / 256))) (eu_tup (ea_cons (md _ _ _ _ x n (by omega) (ev_var rfl) (ev_var rfl)) (ea_cons (md _ _ _ _ _ n (by omega) (dv _ _ _ x 16 (by decide) (by decide) (ev_var rfl)) (ev_var rfl)) (ea_cons (dl _ _ _ (x / 256) trivial (dv _ _ _ x 256 (by decide) (by decide) (ev_var rfl))) ea_nil))) (by show 3 ≤ 100000; decide)) (by omega) fun q2 H6 hq2 e6 h6 => ?_
      refine ⟨_, _, vs ++ [(x % n, x / 16 % n, dby (x / 256))], _, rfl, upd_same, ?_, hX.snoc m1 m2 (dlt _), Ex.mut ((e.trans e5).trans e6) hl⟩
      rw [List.map_append]
      exact ((hT.ex (e5.trans e6)).upd (e6 _ _ (e5 _ _ hl'))).snoc (by rw [upd_ne fun z => by rw [z, e6 _ _ (e5 _ _ hl')] at h6; cases h6]; exact h6)
    rintro σ' H5 ⟨r5', r6', vs, us', rfl, hl5, hT5, hX, e5⟩
    have hXL : (L : Int).toNat = L := Int.toNat_natCast L
    rw [hXL] at hX
    have vlen := hX.len
    have ulen : us'.length = vs.length := hT5.1.trans (List.length_map _)
    have hWeb : WebOk n vs := hP.web hX (by omega) (by decide) n1 n12 (fun z => by show (decide (n = 1) || _) = true; rw [decide_eq_true z]; rfl) hperm
    have vpos : 0 < vs.length := List.length_pos_iff.mpr hWeb.ne
    generalize ht : (cell ns ((2 : Nat) : Int) % (vs.length : Int)).toNat = t
    have hte : cell ns ((2 : Nat) : Int) % (vs.length : Int) = (t : Int) := by
      have := Int.emod_nonneg (cell ns ((2 : Nat) : Int)) (by omega : (vs.length : Int) ≠ 0)
      omega
    refine q_asg (v := .int (t : Int)) (ev_is (ev_op (ccell ns _ _ _ 2 (ex_l e5 hS) rfl ev_c) (ev_len (ev_var rfl) (sq_of hl5)) (rv_I (by show (0 : Int) < (us'.length : Int); omega))) (by rw [ulen]; exact congrArg V.int hte)) fun H6 e6 => ?_
    refine s_retL (el_cat (ew_new (el_sl (ev_var rfl) (eo_some (ev_var rfl)) eo_none (sq_of (e6 _ _ hl5)))) (ew_new (el_sl (ev_var rfl) eo_none (eo_some (ev_var rfl)) (sq_of (e6 _ _ hl5)))) ?_) fun p2 H7 hp2 e7 h7 => ?_
    · rw [cutV_drop, cutV_take, List.length_drop, List.length_take]
      omega
    · have e57 := e6.trans e7
      rw [cutV_drop, cutV_take] at h7
      refine q (vs.drop t ++ vs.take t) p2 H7 (us'.drop t ++ us'.take t) (hWeb.perm (rot_perm vs t)) (fun w hw => hX.del w ((rot_perm vs t).mem_iff.mp hw)) (by rw [(rot_perm vs t).length_eq]; omega) (eN2.trans (LamX.ExtN.of (e5.trans e57))) h7 ?_
      have hT7 := hT5.ex e57
      rw [List.map_append, List.map_drop, List.map_take]
      exact (hT7.drop t).app (hT7.take t)
/-! ### a list of tuples laid anew -/
section
variable {K : PySem.W.Frag} {σ : L2.St} {H : Hp} {ta te : TE}
theorem ek_listT {p : Addr} {us : List V} {xss : List (List V)} (ha : Ev ta σ H (.ref p)) (hp : H p = some (.lst us)) (hT : Tups H us xss) : EvK (tCB (rListS K) (tCons ta tNil)) σ H (RetT xss) := fun H1 e Q q =>
  (el_list ha (sq_of hp)) H1 e Q fun l H2 hl e2 h2 => q l H2 us hl e2 h2 (hT.ex (e.trans e2))
end
/-! ### one out of three, of four -/
theorem at3 {x : Int} (a b c : V) : ∃ v, (v = a ∨ v = b ∨ v = c) ∧ atI [a, b, c] (x % 3) = some v := by
  have h0 := Int.emod_nonneg x (by decide : (3 : Int) ≠ 0)
  have h2 := Int.emod_lt_of_pos x (by decide : (0 : Int) < 3)
  by_cases e0 : x % 3 = 0
  · rw [e0]
    exact ⟨a, .inl rfl, rfl⟩
  · by_cases e1 : x % 3 = 1
    · rw [e1]
      exact ⟨b, .inr (.inl rfl), rfl⟩
    · rw [show x % 3 = 2 by omega]
      exact ⟨c, .inr (.inr rfl), rfl⟩
theorem at4 {x : Int} (a b c d : V) : ∃ v, (v = a ∨ v = b ∨ v = c ∨ v = d) ∧ atI [a, b, c, d] (x % 4) = some v := by
  have h0 := Int.emod_nonneg x (by decide : (4 : Int) ≠ 0)
  have h2 := Int.emod_lt_of_pos x (by decide : (0 : Int) < 4)
  by_cases e0 : x % 4 = 0
  · rw [e0]
    exact ⟨a, .inl rfl, rfl⟩
  · by_cases e1 : x % 4 = 1
    · rw [e1]
      exact ⟨b, .inr (.inl rfl), rfl⟩
    · by_cases e2 : x % 4 = 2
      · rw [e2]
        exact ⟨c, .inr (.inr (.inl rfl)), rfl⟩
      · rw [show x % 4 = 3 by omega]
        exact ⟨d, .inr (.inr (.inr rfl)), rfl⟩
/-! ### what walks to its end while an exception is handled -/
section
open HotX
variable {prog : Program} {w : World} {A : Around} {E : Value → Shared → Prop} {s : Shared}
/-- StopIteration, made and thrown where an exception is handled -/
theorem stop_hot {α : Type} {x1 : Addr} {Q : α → Shared → Prop} (hot : HotAt A x1 s.heap)
    (hE : ∀ (e : Addr) (h' : Heap), (∃ o, h'.get? e = some o ∧ o.cls = .type "StopIteration") → (∀ b o, s.heap.get? b = some o → h'.get? b = some o) → E (.ref e) { s with heap := h' }) :
    wpAny (model prog w) A (newExc (.type "StopIteration") [] >>= fun e => (raiseNew e : Sem α)) Q E s := by
  obtain ⟨hh, ob, fs, g1, g2, g3⟩ := hot
  simp only [newExc, newTuple]
  refine wpAny_bind (wpAny_bind (wpAny_newObj_type ?_ (by size_fits)))
  refine wpAny_bind (m := firstArgMember _ _) (wpAny_of_eq (a := Value.none) (by first | rfl | (simp only [firstArgMember] <;> rfl)) (wpAny_newObj_type ?_ (by size_fits)))
  refine raiseNew_hot (x1 := x1) ⟨hh, ob, fs, Heap.get?_push_of_some _ (Heap.get?_push_of_some _ g1), g2, g3⟩ (Nat.ne_of_lt (Heap.lt_size (Heap.get?_push_of_some _ g1))) (Heap.get?_push_size _ rfl) rfl
    (by first | (simp; done) | (simp; omega) | (simp only [Array.size_append]; simp; omega)) (hE _ _ ⟨_, Heap.get?_update_self _ (Heap.get?_push_size _ rfl) rfl, rfl⟩ fun b o e => ?_)
  rw [Heap.get?_update_other _ _ (Nat.ne_of_gt (Heap.lt_size (Heap.get?_push_of_some _ e)))]
  exact Heap.get?_push_of_some _ (Heap.get?_push_of_some _ e)
theorem hot_kept {x1 it : Addr} {f : Obj → Obj} (hot : HotAt A x1 s.heap) (ne : x1 ≠ it) : HotAt A x1 (s.heap.update it f) := by
  obtain ⟨hh, ob, fs, g1, g2, g3⟩ := hot
  exact ⟨hh, ob, fs, by rw [Heap.get?_update_other _ _ (Ne.symm ne)]; exact g1, g2, g3⟩
/-- a list's iterator at its end -/
theorem list_out {it l x1 : Addr} {i : Nat} {xs : Array Value} {Q : Option Value → Shared → Prop} (hot : HotAt A x1 s.heap) (ne : x1 ≠ it) (ti : s.heap.IsListIter it l i) (tl : s.heap.IsList l xs) (no : xs[i]? = none)
    (fin : ∀ h', Heap.ExtBut it s.heap h' → Q none { s with heap := h' }) : wpAny (model prog w) A (pyNext (.ref it)) Q E s := by
  obtain ⟨q, hq, c1, c2⟩ := id ti
  obtain ⟨ol, hol, _, nl, hdl⟩ := tl
  unfold pyNext
  refine wpAny_bind (wpAny_attempt (wpAny_callSpecial?_slot (name := Str.ofString "__next__") ti.typeIs slot_listiter_next (wpAny_call_entry slot_listiter_next ti.typeIs entry_listiter_next ?_ (args_listiter_next _))))
  show wpAny _ _ (field (.ref it) 0 >>= _) _ _ _
  refine wpAny_bind (wpAny_field hq c2 (x := Value.ref l) rfl ?_)
  show wpAny _ _ (if (Value.ref l == Value.none) = true then _ else _) _ _ _
  rw [if_neg (show ¬ (Value.ref l == Value.none) = true from fun z => Bool.noConfusion (show false = true from z))]
  show wpAny _ _ (field (.ref it) 1 >>= _) _ _ _
  refine wpAny_bind (wpAny_field hq c2 (x := Value.int i 0) rfl ?_)
  show wpAny _ _ (seqItems? (.ref l) >>= _) _ _ _
  refine wpAny_bind (wpAny_seqItems hol hdl ?_)
  simp only [Int.toNat_natCast, no]
  refine wpAny_bind (wpAny_rule (wpAny_bind (wpAny_setField hq c2 (by simp) ?_)))
  refine stop_hot (x1 := x1) (hot_kept hot ne) fun e h' hc up => ?_
  refine wpAny_bind (wpAny_isInstance (T := "StopIteration") (b := true) hc isSubtype_stop (wpAny_pure (fin _ fun b o hb g => up _ _ ?_)))
  rw [Heap.get?_update_other _ _ (Ne.symm hb)]
  exact g
/-- a tuple's iterator at its end -/
theorem tuple_out {it l x1 : Addr} {i : Nat} {xs : Array Value} {Q : Option Value → Shared → Prop} (hot : HotAt A x1 s.heap) (ne : x1 ≠ it) (ti : s.heap.IsTupleIter it l i) (tl : s.heap.IsTuple l xs) (no : xs[i]? = none)
    (fin : ∀ h', Heap.ExtBut it s.heap h' → Q none { s with heap := h' }) : wpAny (model prog w) A (pyNext (.ref it)) Q E s := by
  obtain ⟨q, hq, c1, c2⟩ := id ti
  obtain ⟨ol, hol, _, nl, hdl⟩ := tl
  unfold pyNext
  refine wpAny_bind (wpAny_attempt (wpAny_callSpecial?_slot (name := Str.ofString "__next__") ti.typeIs F.slot_tuple_iterator_next (wpAny_call_entry F.slot_tuple_iterator_next ti.typeIs F.entry_tuple_iterator_next ?_ (F.args_tuple_iterator_next_1 _))))
  show wpAny _ _ (field (.ref it) 0 >>= _) _ _ _
  refine wpAny_bind (wpAny_field hq c2 (x := Value.ref l) rfl ?_)
  show wpAny _ _ (if (Value.ref l == Value.none) = true then _ else _) _ _ _
  rw [if_neg (show ¬ (Value.ref l == Value.none) = true from fun z => Bool.noConfusion (show false = true from z))]
  show wpAny _ _ (field (.ref it) 1 >>= _) _ _ _
  refine wpAny_bind (wpAny_field hq c2 (x := Value.int i 0) rfl ?_)
  show wpAny _ _ (seqItems? (.ref l) >>= _) _ _ _
  refine wpAny_bind (wpAny_seqItems hol hdl ?_)
  simp only [Int.toNat_natCast, no]
  refine wpAny_bind (wpAny_rule (wpAny_bind (wpAny_setField hq c2 (by simp) ?_)))
  refine stop_hot (x1 := x1) (hot_kept hot ne) fun e h' hc up => ?_
  refine wpAny_bind (wpAny_isInstance (T := "StopIteration") (b := true) hc isSubtype_stop (wpAny_pure (fin _ fun b o hb g => up _ _ ?_)))
  rw [Heap.get?_update_other _ _ (Ne.symm hb)]
  exact g
/-- a tuple taken apart -/
theorem parts_hot {env : Env} {es : List Expr} {k : Nat} {pos : Pos} {t x1 : Addr} {xs : Array Value} {Q : Unit → Shared → Prop} (hot : HotAt A x1 s.heap) (ht : s.heap.IsTuple t xs) (hn : (assignEach es env).length = xs.size) (hst : (assignEach es env).findIdx? (·.1) = none)
    (go : ∀ h', Heap.ExtBut s.heap.objs.size s.heap h' → wpAny (model prog w) A (assignInOrder ((assignEach es env).map (·.2)) xs.toList) Q E { s with heap := h' }) : wpAny (model prog w) A (assign (.Tuple es k pos) env (.ref t)) Q E s := by
  have nt : t ≠ s.heap.objs.size := by obtain ⟨o, ho, _⟩ := ht; exact Nat.ne_of_lt (Heap.lt_size ho)
  have nx : x1 ≠ s.heap.objs.size := by obtain ⟨_, o, fs, ho, _⟩ := hot; exact Nat.ne_of_lt (Heap.lt_size ho)
  rw [arm_assign_Tuple]
  refine wpAny_bind (wpAny_standAt ?_)
  unfold unpack
  rw [hn, hst]
  refine wpAny_bind (wpAny_holding ?_)
  unfold unpackItems
  refine wpAny_bind ?_
  unfold notIterableAtAll
  refine wpAny_bind (wpAny_specialOf ht.typeIs F.slot_tuple_iter.lookup (wpAny_pure ?_))
  simp only [Bool.false_eq_true, if_false]
  refine wpAny_bind (wpAny_holding (wpAny_pyIter_tuple ht ?_))
  refine wpAny_bind (wpAny_holding (wpAny_draw_tuple nt xs.size 0 _ _ ⟨_, Heap.get?_push_size _ rfl, rfl, rfl⟩ (ht.push _) (by omega) fun h2 i2 b2 => ?_))
  have all : List.take xs.size (List.drop 0 xs.toList) = xs.toList := by
    rw [List.drop_zero]; exact List.take_of_length_le (by simp)
  rw [all, if_neg (by simp)]
  have t2 : h2.IsTuple t xs := (ht.push _).extBut b2.extBut nt
  have hot2 : HotAt A x1 h2 := by
    obtain ⟨hh, o, fs, g1, g2, g3⟩ := hot
    exact ⟨hh, o, fs, b2.extBut _ _ nx (Heap.get?_push_of_some _ g1), g2, g3⟩
  refine wpAny_bind (wpAny_holding (tuple_out hot2 nx i2 t2 (by simp) fun h3 e3 => ?_))
  simp only [Option.isSome_none, Bool.false_eq_true, if_false]
  exact wpAny_pure (go h3 fun b o hb e => e3 b o hb (b2.extBut b o hb (Heap.get?_push_of_some _ e)))
end

section
open HotX L2H
theorem turn_listH {P : Program} {w : World} {K : PySem.W.Frag} {tg : Expr} (a it : Addr) : TurnH P w K tg (Itl K a) [it] it (fun i h => h.IsListIter it a i) where
  mem := List.mem_singleton_self _
  obj := (turn_list (P := P) (w := w) (K := K) (tg := tg) a it).obj
  keep := (turn_list (P := P) (w := w) (K := K) (tg := tg) a it).keep
  item := by
    intro Y e1 e2 e3 _ i pins s σ H E J hf st hg
    subst e1 e2 e3
    obtain ⟨xs, x, lq, hx⟩ := hg
    obtain ⟨its, rv, p, _⟩ := J.list lq
    obtain ⟨u, hu, ru⟩ := rv.get hx
    obtain ⟨n0, n1, n2, n3, n4, n5⟩ := hf it (List.mem_singleton_self _)
    refine wpAny_pyNext_list_item st p.isList (x := u) (by simpa using hu) fun h2 st2 sb => ?_
    have J2 : Inv Y pins σ H { s with heap := h2 } := J.turned (t' := s.toks) (fun b o hb e => (sb.2 b hb).trans e) n0 n1 n3 n4 n5
    obtain ⟨o, g1, g2, g3⟩ := id st2
    exact ⟨u, rfl, go_of (s := { s with heap := h2 }) g1 g2 g3 (by decide) ⟨x, H, J2, ru, ⟨rfl, fun ys hy => by rw [J.list_inj hy lq]; exact hx⟩, st2, fun b hb => (hf b hb).1⟩⟩
  done := by
    intro Y e1 e2 e3 hc i pins s σ H E J hf st hg
    subst e1 e2 e3
    obtain ⟨xs, lq, hx⟩ := hg
    obtain ⟨its, rv, p, _⟩ := J.list lq
    obtain ⟨n0, n1, n2, n3, n4, n5⟩ := hf it (List.mem_singleton_self _)
    have hl := rv.length
    obtain ⟨q, ⟨hh, v1, g1, g2⟩, hq⟩ := hc
    exact list_out (x1 := q.1) ⟨hh, q.2, v1, (J.pin q (List.mem_append_left _ hq)).1, g1, g2⟩ (n5 q (List.mem_append_left _ hq)) st p.isList (by simp; omega) fun h2 eb => ⟨rfl, J.turned (t' := s.toks) (fun b o hb e => eb b o hb e) n0 n1 n3 n4 n5⟩
  self := fun _ _ _ _ _ st h => wpAny_pyIter_listiter st h
theorem pi_listH {X : Cx} {tg e : Expr} {te : TE} (he : PE X e te) : PIH X tg e (iList X.K te) := by
  refine ⟨fun pins s σ H R I h => ?_⟩
  refine thn (he.run pins s σ H _ I h) fun v s1 ⟨x, H1, I1, rx, a, ex, ⟨xs, lq⟩, q⟩ => ?_
  subst ex
  obtain rfl : v = Value.ref a := rx
  obtain ⟨its, rv, p, _⟩ := I1.list lq
  refine wpAny_pyIter_list p.isList ?_
  have sz := Nat.le_refl s1.heap.objs.size
  exact ⟨s1.heap.objs.size, [s1.heap.objs.size], _, _, H1, rfl, I1.kept (t' := s1.toks) fun b o e => Heap.get?_push_of_some _ e, turn_listH a _, ⟨_, Heap.get?_push_size _ rfl, rfl, rfl⟩, fun b hb => (by
    rw [List.mem_singleton.mp hb]
    exact I1.fpOk sz (I1.hok.fresh sz)), q⟩
theorem pg_tupH {X : Cx} {es : List Expr} {k : Nat} {pos : Pos} {t : TGs} {n : Nat} (hc : HotC X) (h : PGs X es t) (hn : (assignEach es X.env).length = n := by rfl) (hst : (assignEach es X.env).findIdx? (·.1) = none := by rfl) : PG X (.Tuple es k pos) (gTup X.K n t) := by
  refine ⟨fun pins s σ H v u Q I r hw => ?_⟩
  obtain ⟨a, xs, rfl, hq, hl, hw⟩ := hw
  cases r
  obtain ⟨its, rv, ht, _⟩ := I.tuple hq
  obtain ⟨x1, hot⟩ := hc.at I
  refine parts_hot hot ht (by simp [hn, ← hl, rv.length]) hst fun h2 up => ?_
  exact h.run pins _ σ H xs _ Q (I.kept (t' := s.toks) fun b o e => up b o (Nat.ne_of_lt (Heap.lt_size e)) e) (by simpa using rv) hw
end

/-! ### a list comprehension where an exception is handled -/
section
open HotX L2H
/-- the block's context: the exception that is handled stays in sight -/
abbrev blkH (X : Cx) (s : Shared) (H : Hp) (sc : Scope) (ce : Env) (fp : List Addr) : Cx := (X.blk s H sc ce fp).tr X.pn (fun _ _ => False)
variable {X : Cx}
theorem hot_blk {s : Shared} {H : Hp} {sc : Scope} {ce : Env} {fp : List Addr} (c : HotC X) : HotC (blkH X s H sc ce fp) := c
theorem start_blkH {pins : List (Addr × Obj)} {σ : L2.St} {H : Hp} {s : Shared} {sc : Scope} {own : List (Str × Nat)} {fp : List Addr} (J : Inv X pins σ H s) (bo : BlkOk X.N X.env.scope sc own) (nd : X.N.Nodup) (hfp : ∀ b ∈ fp, FpOk X pins H b ∧ b < s.heap.objs.size) :
    Inv (blkH X s H sc (compEnvC sc (cellsFrom (s.heap.objs.size + 1) sc.names (cloFrom X.env.cells sc.names [])) s.heap.objs.size X.env) fp) [] (wipe σ (own.map (·.2))) H { s with heap := pushCells (s.heap.push { cls := .type "dict", data := .dict #[] }) sc.names } := by
  have B := block_start J bo nd hfp
  refine ⟨B.ok.toTry _ _, B.os, B.bare, B.base, B.loc, B.cell, B.free, B.freeC, fun q hq => ?_, B.hok, B.len⟩
  have hq' : q ∈ X.pn := by
    rcases List.mem_append.mp hq with z | z
    · exact z
    · cases z
  obtain ⟨g1, g2, g3, g4, g5⟩ := J.pin q (List.mem_append_left _ hq')
  exact ⟨pushCells_keeps _ _ _ _ (Heap.get?_push_of_some _ g1), g2, Nat.ne_of_lt (Heap.lt_size g1), fun z => (List.mem_cons.mp (J.stkSub _ z)).elim g3 g4, g5⟩
theorem lc_coreH {pins : List (Addr × Obj)} {t0 : Shared} {σ : L2.St} {H : Hp} {Q : VK} {elt tg iter : Expr} {ifs : List Expr} {sc : Scope} {own : List (Str × Nat)} {pos pos' : Pos} {wi : TI} {g : TG} {tt : TT} {te : TE} {use : Option (Value → Sem Unit)} {R : Value → Shared → Prop}
    (hot : HotC X) (nd : X.N.Nodup) (J : Inv X pins σ H t0) (pi : PIH X tg iter wi) (bo : BlkOk X.N X.env.scope sc own)
    (hG : ∀ (s : Shared) (H : Hp) (C : Addr) (cl : List (Str × Addr)) (fp : List Addr), PG (blkH X s H sc (compEnvC sc cl C X.env) fp) tg g)
    (hT : ∀ (s : Shared) (H : Hp) (C : Addr) (cl : List (Str × Addr)) (fp : List Addr), PTs (blkH X s H sc (compEnvC sc cl C X.env) fp) ifs tt)
    (hE : ∀ (s : Shared) (H : Hp) (C : Addr) (cl : List (Str × Addr)) (fp : List Addr), PE (blkH X s H sc (compEnvC sc cl C X.env) fp) elt te) (hF : ∀ x, foldedSetIterable iter X.env x = pure x)
    (hq : tLc wi g tt te (own.map (·.2)) σ H Q)
    (back : ∀ D C t m H', Inv X pins σ H' t → Q (.ref D) H' → t.heap.Ns C m → FpOk X pins H' C → compPost (model X.prog X.w) X.A X.xe use R (.ref D) C (.ok .next) t) :
    wpAny (model X.prog X.w) X.A (comprehension (.ListComp elt [⟨tg, iter, ifs, 0⟩] sc pos) sc X.env pos' (newList []) false (eval iter X.env) use) R X.xe t0 := by
  have fr : ∀ y ∈ sc.names, y.2 = .free → ∃ c, X.env.cells.lookup y.1 = some c := fun y hy e => X.env.scope |> fun _ => (bo.free y hy e).elim (fun k => J.ok.has _ (.inl k)) (fun k => J.ok.has _ (.inr k))
  refine wpAny_comprehension_free (use := use) rfl hF (closure_ok fr) bo.kind (fun y hy e => by rw [bo.uniq y hy, e]) (thn (pi.run pins t0 σ H _ J hq) fun xv t1 hx => thn hx fun itv t2 hh => ?_)
  obtain ⟨it, fp, tn, ix, H2, rfl, J2, T, n2, ff2, q⟩ := hh
  refine wpAny_newObj_type (newEnv_comp ?_) (Nat.zero_le sizeLine)
  generalize hD : t2.heap.objs.size = D
  obtain ⟨W, ⟨m0, w0⟩, turn⟩ := q D (J2.hok.fresh (Nat.le_of_eq hD))
  -- the new list is laid
  generalize ht3 : ({ t2 with heap := t2.heap.push { cls := .type "list", data := .seq ([] : List Value).toArray } } : Shared) = t3
  have h3 : t3.heap = t2.heap.push { cls := .type "list", data := .seq ([] : List Value).toArray } := by subst ht3; rfl
  have J3 : Inv X pins σ (upd H2 D (.lst [])) t3 := by
    subst ht3
    exact J2.laid (t' := t2.toks) (fun b o e => Heap.get?_push_of_some _ e) (Nat.le_of_eq hD) ⟨Nat.zero_le _, [], 0, .nil, hD ▸ Heap.get?_push_size _ rfl⟩
  have lt2 : ∀ b ∈ fp, b < t2.heap.objs.size := fun b hb => (T.obj _ _ n2 b hb).elim fun o e => Heap.lt_size e.1
  have ff3 : ∀ b ∈ fp, FpOk X pins (upd H2 D (.lst [])) b ∧ b < t3.heap.objs.size := fun b hb => ⟨⟨by
    rw [upd_ne (hD ▸ Nat.ne_of_lt (lt2 b hb))]
    exact (ff2 b hb).1, (ff2 b hb).2⟩, by
    rw [h3, Heap.size_push]
    exact Nat.lt_succ_of_lt (lt2 b hb)⟩
  have n3 : tn 0 t3.heap := T.keep _ _ _ n2 fun b _ o e => h3 ▸ Heap.get?_push_of_some _ e
  have J4 := start_blkH J3 bo nd ff3
  have gg := hG t3 (upd H2 D (.lst [])) t3.heap.objs.size (cellsFrom (t3.heap.objs.size + 1) sc.names (cloFrom X.env.cells sc.names [])) fp
  have gt := hT t3 (upd H2 D (.lst [])) t3.heap.objs.size (cellsFrom (t3.heap.objs.size + 1) sc.names (cloFrom X.env.cells sc.names [])) fp
  have ge := hE t3 (upd H2 D (.lst [])) t3.heap.objs.size (cellsFrom (t3.heap.objs.size + 1) sc.names (cloFrom X.env.cells sc.names [])) fp
  show codeAny _ _ (.compStart (.ListComp elt [⟨tg, iter, ifs, 0⟩] sc pos) 0 (.ref it) (.ref D) (compEnvC sc (cellsFrom (t3.heap.objs.size + 1) sc.names (cloFrom X.env.cells sc.names [])) t3.heap.objs.size X.env))
    (compPost (model X.prog X.w) X.A X.xe use R (.ref D) t3.heap.objs.size) { t3 with heap := pushCells (t3.heap.push { cls := .type "dict", data := .dict #[] }) sc.names }
  have free3 : ∀ b ∈ fp, (upd H2 D (.lst [])) b = none := fun b hb => (ff3 b hb).1.1
  generalize hce : compEnvC sc (cellsFrom (t3.heap.objs.size + 1) sc.names (cloFrom X.env.cells sc.names [])) t3.heap.objs.size X.env = ce at J4 gg gt ge ⊢
  have loc : ce.locals = t3.heap.objs.size := by subst hce; rfl
  generalize hH3 : upd H2 D (.lst []) = H3 at J3 J4 gg gt ge w0 free3 ff3
  generalize ht4 : ({ t3 with heap := pushCells (t3.heap.push { cls := .type "dict", data := .dict #[] }) sc.names } : Shared) = t4 at J4 ⊢
  have n4 : tn 0 t4.heap := T.keep _ _ _ n3 fun b _ o e => ht4 ▸ pushCells_keeps _ _ _ _ (Heap.get?_push_of_some _ e)
  have still : ∀ {σ' : L2.St} {H' : Hp} {t : Shared}, Inv (blkH X t3 H3 sc ce fp) [] σ' H' t → (∀ b ∈ fp, H' b = none) → ∀ b ∈ fp, FpOk (blkH X t3 H3 sc ce fp) [] H' b := fun {σ' H' t} J' hn b hb =>
    ⟨hn b hb, (J'.ok.exf b hb).1, J'.ok.exfs b hb, .inl hb, fun y c e => (J'.ok.exf b hb).2 y c e, fun p hp => (ff3 b hb).1.2.2.2.2.2 p (by
      rcases List.mem_append.mp hp with z | z
      · exact List.mem_append_left _ z
      · cases z)⟩
  have go : codeAny (model X.prog X.w) X.A (.compLoop (.ListComp elt [⟨tg, iter, ifs, 0⟩] sc pos) 0 (.ref it) (.ref D) ce) (compPost (model X.prog X.w) X.A X.xe use R (.ref D) t3.heap.objs.size) t4 := by
    refine compLoop_any (fun n t => ∃ i H', Inv (blkH X t3 H3 sc ce fp) [] (wipe σ (own.map (·.2))) H' t ∧ tn i t.heap ∧ (∀ b ∈ fp, H' b = none) ∧ W i n H') ?_ m0 ⟨0, H3, J4, n4, free3, w0⟩
    rintro n t5 ⟨i, H5, J5, n5, fr5, w5⟩
    rcases turn i n H5 w5 with ⟨stop, qq⟩ | ⟨more, Nx, hNx, step⟩
    · refine thnF (T.done (blkH X t3 H3 sc ce fp) rfl rfl rfl (hot_blk hot) i [] t5 _ H5 (fun _ _ => False) J5 (still J5 fr5) n5 stop) fun r t6 ⟨hr, J6⟩ => ?_
      subst hr
      have J7 : Inv X pins σ H5 t6 := J3.call' (ch := fp) J6.os J6.base J6.hok J6.bare fun b hb => have z := (ff3 b hb).1.2; ⟨z.2.2.1, z.1, z.2.2.2.1, z.2.2.2.2⟩
      have nL : H5 ce.locals = none := J6.free
      obtain ⟨m, hn, _⟩ := J6.loc
      have hn' : t6.heap.Ns ce.locals m := hn
      rw [loc] at hn' nL
      exact back D t3.heap.objs.size t6 m H5 J7 qq hn' (J3.fpOk (Nat.le_refl _) nL)
    · refine thnF (T.item (blkH X t3 H3 sc ce fp) rfl rfl rfl (hot_blk hot) i [] t5 _ H5 (fun _ _ => False) J5 (still J5 fr5) n5 more) fun r t6 ⟨u, hr, h6⟩ => ?_
      subst hr
      refine thnF h6 fun _ t7 ⟨x, H7, J7, rx, yx, n7, fr7⟩ => ?_
      refine thnF (gg.run _ t7 _ H7 x u _ (J7.pinned (still J7 fr7) (T.obj _ _ n7)) rx (step x H7 yx)) fun _ t8 ⟨σ8, H8, J8, hw8, q8⟩ => ?_
      refine thnF (gt.run _ t8 σ8 H8 _ J8 q8) fun b t9 ⟨H9, J9, q9⟩ => ?_
      have fin : ∀ {t : Shared} {H' : Hp}, Inv (blkH X t3 H3 sc ce fp) ([] ++ pinsAt fp t7.heap) σ8 H' t → Nx H' → ∃ m, m < n ∧ ∃ i H', Inv (blkH X t3 H3 sc ce fp) [] (wipe σ (own.map (·.2))) H' t ∧ tn i t.heap ∧ (∀ b ∈ fp, H' b = none) ∧ W i m H' := fun {t H'} J' nx => by
        obtain ⟨m', hm, w'⟩ := hNx H' nx
        have kept : ∀ b ∈ fp, ∀ o, t7.heap.get? b = some o → t.heap.get? b = some o ∧ H' b = none := fun b hb o e =>
          have z := J'.pin (b, o) (List.mem_append_right _ (List.mem_append_right _ (mem_pinsAt hb e)))
          ⟨z.1, z.2.1⟩
        refine ⟨m', hm, i + 1, H', (J'.unpinned (pins := [])).weak (by rw [← hw8, wipe_length]) (fun j v e => (wipe_some (hw8.symm ▸ e)).1), T.keep _ _ _ n7 fun b hb o e => (kept b hb o e).1, fun b hb => ?_, w'⟩
        exact (T.obj _ _ n7 b hb).elim fun o e => (kept b hb o e.1).2
      cases b with
      | false => exact fin J9 (by simpa using q9)
      | true =>
        have q9' := by simpa only [if_true] using q9
        refine thnF (ge.run _ t9 σ8 H9 _ J9 q9') fun z t10 ⟨yv, H10, J10, r10, acc, a1, a2, nx⟩ => ?_
        exact app_ok (X := blkH X t3 H3 sc ce fp) J10 a1 a2 r10 fun t11 J11 => fin J11 nx
  exact codeAny_compStart_list go (T.self X.A 0 _ _ _ n4 go)
/-- name = [..], the name a local -/
theorem ps_setLcH {i : Nat} {y : Str} {py : Pos} {elt tg iter : Expr} {ifs : List Expr} {sc : Scope} {own : List (Str × Nat)} {pos spos : Pos} {wi : TI} {g : TG} {tt : TT} {te : TE} (hot : HotC X) (nd : X.N.Nodup) (hy : X.N[i]? = some y) (hl : X.env.scope.names.lookup y = some .local)
    (sw : swapsWith (.ListComp elt [⟨tg, iter, ifs, 0⟩] sc pos) (some (.Name y py)) spos.line X.env = pure true) (pi : PIH X tg iter wi) (bo : BlkOk X.N X.env.scope sc own)
    (hG : ∀ (s : Shared) (H : Hp) (C : Addr) (cl : List (Str × Addr)) (fp : List Addr), PG (blkH X s H sc (compEnvC sc cl C X.env) fp) tg g)
    (hT : ∀ (s : Shared) (H : Hp) (C : Addr) (cl : List (Str × Addr)) (fp : List Addr), PTs (blkH X s H sc (compEnvC sc cl C X.env) fp) ifs tt)
    (hE : ∀ (s : Shared) (H : Hp) (C : Addr) (cl : List (Str × Addr)) (fp : List Addr), PE (blkH X s H sc (compEnvC sc cl C X.env) fp) elt te) (hF : ∀ x, foldedSetIterable iter X.env x = pure x := by intro _; rfl) :
    PS X (.Assign [.Name y py] (.ListComp elt [⟨tg, iter, ifs, 0⟩] sc pos) spos) (tAsg (tLc wi g tt te (own.map (·.2))) (gName i)) := by
  refine ⟨fun pins t0 σ H D J hq => ?_⟩
  rw [exec_Assign_Name_used _ _ _ _ sw]
  refine wpAny_bind (wpAny_standAt (wpAny_bind ?_))
  show wpAny _ X.A (do let _ ← comprehension (.ListComp elt [⟨tg, iter, ifs, 0⟩] sc pos) sc X.env (firstIterPos [⟨tg, iter, ifs, 0⟩] pos) (newList []) false (eval iter X.env) (some (assign (.Name y py) X.env))) _ _ t0
  have hq : tLc wi g tt te (own.map (·.2)) σ H (fun x H1 => gName i x σ H1 D.nx) := hq
  refine wpAny_bind (thn (lc_coreH (R := fun _ t => SP X pins D .next t) hot nd J pi bo hG hT hE hF hq fun L C t m H' J' q hn f => ?_) fun _ t hq => wpAny_pure (wpAny_pure hq))
  show wpAny _ _ (assign (.Name y py) X.env (.ref L)) _ _ _
  refine wpAny_assign_Name (store_ok2 (v := V.ref L) J' nd hy (.inl hl) rfl (fun t2 J2 ⟨a, sb, ha⟩ => ?_) (.inr hl))
  have ne : C ≠ a := ha.elim (fun z => z.symm ▸ f.2.1) fun z e => f.2.2.2.2.1 y a z e.symm
  exact ⟨m, hn.sameBut sb ne, fun h3 sb3 => ⟨_, H', J2.turned (t' := t2.toks) (fun b o hb e => (sb3.2 b hb).trans e) f.1 f.2.1 f.2.2.2.1 f.2.2.2.2.1 f.2.2.2.2.2, q⟩⟩
end
/-! ### a def that is handed the exception which is handled; calls out of which an exception comes -/
section
open HotX L2H
structure FnE (P : Program) (w : World) (K : PySem.W.Frag) (mg : Str → Option Value) (base : Heap) (k : Nat) (f : Addr) (fd : FuncData) (ps : List Str) (G : Addr × Obj → Prop) (sp : Addr → Sp) : Prop where
  len : ∀ a vs H Q E, sp a vs H Q E → vs.length = ps.length
  run : ∀ (A : Around) (out : List Env) (t : Shared) (H : Hp) (ar : Args) (us : List Value) (vs : List V) (Q : VK) (E : XK) (p : Addr × Obj), G p → RoomH k A → Hot1 A p → PinOk out H t p → Env0 P w K mg base A out t H → BindsTo t fd ar (ps.zip us) → Vals vs us → sp p.1 vs H Q E →
    codeAny (model P w) A (.call (.ref f) ar) (CR CX0 out P w H t Q E) t
theorem okE {P : Program} {w : World} {K : PySem.W.Frag} {mg : Str → Option Value} {base : Heap} {x qual : Str} {params : Arguments} {body : List Stmt} {scope : Scope} {dvs : List V} {kws : List (Str × V)} {f : Addr} {fd : FuncData}
    {N ps : List Str} {k : Nat} {G : Addr × Obj → Prop} {sp : Addr → Sp} (F : FunD K x qual params body scope dvs kws f fd) (S : FnScope N ps scope) (len : ∀ a vs H Q E, sp a vs H Q E → vs.length = ps.length)
    (hbody : ∀ (cdv : Value) (A : Around) (out : List Env) (t : Shared) (H : Hp) (vs : List V) (Q : VK) (E : XK) (p : Addr × Obj), G p → HotC (cxH CX0 P w K mg base N qual scope f cdv A out t H E p) → RoomH k (A.deeper (envOfC qual scope t.heap.objs.size f cdv)) → sp p.1 vs H Q E →
      ∃ ts, PSs (cxH CX0 P w K mg base N qual scope f cdv A out t H E p) body ts ∧ ts { nx := fun _ H' => Q .non H', rt := Q } (L2.start N vs) H) : FnE P w K mg base (k + 1) f fd ps G sp := by
  obtain ⟨oc, od, dV, kV, doc, pm, an, cdv, ct, osl, rfl, lk, hcd, _, _⟩ := F.ex
  refine ⟨len, fun A out t H ar us vs Q E p hG hr hot hp e0 hb r hsp => ?_⟩
  have KI : K.In t.heap := e0.mod.kin.keeps fun b o e => (e0.bs b o e).1
  have NL : t.heap.NoLimit := e0.mod.nolimit.keeps fun b o e => (e0.bs b o e).1
  have kinds : ∀ y ∈ ps.zip us, scope.names.lookup y.1 = some .local ∨ (scope.names.lookup y.1 = some .cell ∧ ((cellsFrom (t.heap.objs.size + 1) scope.names []).lookup y.1).isSome = true) := fun ⟨n, v⟩ hy =>
    (S.par n (List.of_mem_zip hy).1).imp id fun q => ⟨q, PySem.W.cellsFrom_some _ _ _ (.inl q)⟩
  refine codeAny_call_function hr.depth (KI _ _ lk) rfl S.co S.gen rfl (PySem.W.codeRec_of KI hcd) (hb _ _ _ _ (wpAny_newFunctionEnv_cells S.kind kinds fun env he t1 x => ?_))
  subst he
  refine ⟨NL.keeps x.toInCall.keep, codeAny_func ?_⟩
  obtain ⟨ts, hts, hq⟩ := hbody cdv A out t H vs Q E p hG ⟨p, hot, List.mem_singleton_self p⟩ (hr.deeper _) hsp
  have J : Inv (cxH CX0 P w K mg base N qual scope f cdv A out t H E p) [] (L2.start N vs) H t1 := inv_startH S hp e0 (len _ _ _ _ _ hsp) r x
  refine wpAny_mono (hts.run [] t1 (L2.start N vs) H _ J hq) (fun fl t' hs => ?_) fun e t' hs => hs
  have fin : ∀ {σ' : L2.St} {H' : Hp} {v : V} {u : Value}, Inv (cxH CX0 P w K mg base N qual scope f cdv A out t H E p) [] σ' H' t' → RelV v u → Q v H' → CE out P w H t Q u t' := fun {σ' H' v u} J rv q => ⟨v, H', J.os, J.bare, J.base, J.hok, rv, q⟩
  match fl, hs with
  | .ret u, ⟨v, σ', H', J, rv, q⟩ => exact fin J rv q
  | .next, ⟨σ', H', J, q⟩ => exact fin (v := V.non) (u := Value.none) J rfl q
  | .brk, ⟨_, _, _, q⟩ => exact False.elim q
  | .cont, ⟨_, _, _, q⟩ => exact False.elim q
section
variable {X : Cx} {k : Nat} {f C : Addr} {fd : FuncData} {ps : List Str} {x m : Str} {q pos apos : Pos} {e o : Expr} {es : List Expr} {ta : TE} {t : TA}
/-- it is called -/
theorem pe_callE {G : Addr × Obj → Prop} {sp : Addr → Sp} {E : L2.St → XK} {a : Addr} {oe : Obj} (F : FnE X.prog X.w X.K X.mg X.base k f fd ps G sp) (hG : G (a, oe)) (hot : Hot1 X.A (a, oe)) (hp : (a, oe) ∈ X.pn) (hr : RoomH k X.A) (hg : Gl X x) (hm : X.mg x = some (.ref f)) (hk : PySem.W.keepIn X.K (.ref f) = true)
    (hb : Binds X.K fd ps []) (ha : PA X (e :: es) t) (hdb : (x == ("__debug__" : Str)) = false := by decide) (he : starEach (e :: es) X.env = (false, eval e X.env) :: starEach es X.env := by rfl) (hpl : (backTo pos (starEach es X.env)).any (·.1) = false := by rfl) :
    PE X (.Call (.Name x q) (e :: es) [] pos) (tCallS (sp a) E t) := by
  refine ⟨fun pins s σ H Q J h => wpAny_Call_Name_kw (ld_glob J hg hm ?_ hdb)⟩
  refine PySem.W.callWith_K (h₀ := X.base) J.ok.mod.kin hk (thn (ha.run pos pins s σ H _ J h) fun us s1 ⟨vs, H1, J1, r, k1⟩ => ⟨J1.kIn, ?_⟩) he hpl
  have b := hb s1 us J1.kIn (by rw [List.append_nil, ← r.length]; exact F.len _ _ _ _ _ k1)
  rw [List.append_nil] at b
  obtain ⟨g1, g2, g3, g4, g5⟩ := J1.pin (a, oe) (List.mem_append_left _ hp)
  have pk : PinOk X.stack H1 s1 (a, oe) := ⟨g1, g2, fun z => (List.mem_cons.mp (J1.stkSub _ z)).elim g3 g4, g5⟩
  refine wpAny_call (codeAny_mono (F.run X.A X.stack s1 H1 ⟨us, []⟩ us vs Q (E σ) (a, oe) hG hr hot pk J1.env0 b r k1) fun rs s' hq => ?_)
  match rs, hq with
  | .error _, z => exact False.elim z
  | .ok (.ret u), z => exact J1.after z
  | .ok .next, z => exact False.elim z
  | .ok .brk, z => exact False.elim z
  | .ok .cont, z => exact False.elim z
/-- isinstance(e, c), e the exception that is handled -/
theorem call_isP {a D : Addr} {oe : Obj} (C : ExcC X.K D) (hz : Zc (.ref D) none oe) (hf : ∃ vs, oe.data = .fields vs) (hp : (a, oe) ∈ X.pn) : CallR X (.builtin "isinstance") (rIsE X.K D a) := by
  intro pins s σ H xs us Q J r h
  obtain ⟨c, cv, b, rfl, hcv, eb, q⟩ := h
  match us, r with
  | _, .cons rx (.cons rt .nil) =>
    cases rx
    have ec := hcv _ rt
    subst ec
    have hget := (J.pin (a, oe) (List.mem_append_left _ hp)).1
    obtain ⟨vs, hv⟩ := hf
    have at_ : PySem.W.InstAt s.heap a oe D none := by
      obtain ⟨oc, od, oda, osl⟩ := oe
      obtain ⟨h1, h2⟩ := hz
      dsimp only at h1 h2 hv
      subst h1 h2 hv
      exact ⟨hget, rfl, rfl, trivial⟩
    exact PySem.W.kia_one (PySem.W.handS_kitx_exc C.hg C.hk C.hs C.hd C.ha C.hn C.ht C.hm) J.kIn at_ eb (fun z => nomatch z) fun tk => ⟨.bl b, H, J.kept (t' := tk) fun _ _ z => z, rfl, q⟩
/-- o.m(..), out of which an exception may come that hangs on the slots -/
def tMethS (C : Addr) (m : Str) (sp : Sp) (E : L2.St → XK) (ta : TE) (t : TA) : TE := fun σ H Q => ta σ H fun x H1 => ∃ a dx fs, x = .ref a ∧ H1 a = some (.ins C dx fs) ∧ fs.lookup m = none ∧ t σ H1 fun vs H2 => sp (x :: vs) H2 Q (E σ)
theorem pe_methS {CX : CXT} {sp : Sp} {E : L2.St → XK} {pl : Sem Bool} (he : PE X o ta) (c : Cls X.K C) (hm : Meth X.K C m f) (F : FnOk X.prog X.w X.K X.mg X.base CX k f fd ps sp) (hr : Room k X.A) (hb : Binds X.K fd ps []) (hx : ∀ σ, PassesAt CX X σ (E σ)) (ha : PA X (e :: es) t)
    (hst : starEach (e :: es) X.env = (false, eval e X.env) :: starEach es X.env := by rfl) (hpl : (backTo pos (starEach es X.env)).any (·.1) = false := by rfl)
    (ht : eval (.Call (.Attribute o m apos) (e :: es) [] pos) X.env = (do
      let ov ← eval o X.env
      standAt apos.atName
      let (g, first) ← holding [ov] (getMethod ov m pl)
      callWith pos g first (backTo pos (starEach (e :: es) X.env)) (backToKw pos (keywordEach [] X.env))) := by rfl) :
    PE X (.Call (.Attribute o m apos) (e :: es) [] pos) (tMethS C m sp E ta t) := by
  refine ⟨fun pins s σ H Q J h => PySem.W.methodCall_KW (pl := pl) (thn (he.run pins s σ H _ J h) fun u s1 ⟨x, H1, J1, rx, a, dx, fs, ex, ea, l, q⟩ => ?_) ht⟩
  subst ex
  obtain rfl : u = Value.ref a := rx
  refine getmeth_ok J1 ea c hm l (PySem.W.callWith_K (first := [.ref a]) (h₀ := X.base) J1.ok.mod.kin hm.kp (thn (ha.run pos pins s1 σ H1 _ J1 q) fun us s2 ⟨vs, H2, J2, r, q2⟩ => ⟨J2.kIn, ?_⟩) hst hpl)
  exact run_fnS (us := .ref a :: us) (vs := .ref a :: vs) F hr hb (hx σ) J2 (.cons rfl r) q2
end
end
section
variable {X : Cx} {sts : List Stmt} {t u : TS}
theorem pss_known {cls : Value} {d : Option Addr} {D : Addr} {oe : Obj} (hz : L2N.Zn cls d oe) (h : L2N.Zn (.ref D) none oe → PSs X sts t) : PSs X sts (fun Dn σ H => (cls = .ref D ∧ d = none) ∧ t Dn σ H) :=
  ⟨fun pins s σ H Dn J q => (h (by
    obtain ⟨⟨rfl, rfl⟩, _⟩ := q
    exact hz)).run pins s σ H Dn J q.2⟩
theorem pss_or (h : PSs X sts t) (h2 : PSs X sts u) : PSs X sts (fun Dn σ H => t Dn σ H ∨ u Dn σ H) := ⟨fun pins s σ H Dn J q => q.elim (h.run pins s σ H Dn J) (h2.run pins s σ H Dn J)⟩
theorem tk0 : L2N.Takes X (fun _ _ _ _ => False) := fun _ _ ⟨_, _, _, _, _, _, _, _, _, _, _, _, _, _, _, _, w⟩ => w.elim
end
theorem op_eqK {X : Cx} {K : PySem.W.Frag} (hK : X.K = K) (hu : X.A.units + 64 < cLine) : OpR X (compareOp .Eq) (rEqD K) := hK ▸ op_eqD hu
theorem _root_.L2H.RoomH.units {k : Nat} {A : Around} (r : L2H.RoomH k A) : A.units + 64 < cLine := by have := r.un; omega
open HotX L2H in
theorem roomH_mark {k : Nat} {A : Around} {v : Option Value} (r : RoomH k A) : RoomH k (A.mark v) := ⟨r.dp, r.un⟩
open HotX L2H in
theorem hot1_of {A : Around} {a : Addr} {oe : Obj} {D : Value} {d : Option Addr} (hz : L2N.Zn D d oe) (hf : ∃ vs, oe.data = .fields vs) : Hot1 (A.mark (some (.ref a))) (a, oe) := ⟨rfl, hf.elim fun vs h => ⟨vs, h, hz.2.2 vs h⟩⟩
/-- a def out of whose body an exception may come -/
theorem okX {P : Program} {w : World} {K : PySem.W.Frag} {mg : Str → Option Value} {base : Heap} {x qual : Str} {params : Arguments} {body : List Stmt} {scope : Scope} {dvs : List V} {kws : List (Str × V)} {f : Addr} {fd : FuncData}
    {N ps : List Str} {k : Nat} {sp : Sp} (F : FunD K x qual params body scope dvs kws f fd) (S : FnScope N ps scope) (len : ∀ vs H Q E, sp vs H Q E → vs.length = ps.length)
    (hbody : ∀ (cdv : Value) (A : Around) (outer : List Env) (s : Shared) (H : Hp) (vs : List V) (Q : VK) (E : XK), Room k (A.deeper (envOfC qual scope s.heap.objs.size f cdv)) → L2N.Takes (cxOf (L2N.CX P w) P w K mg base N qual scope f cdv A outer s H E) (fun cls d _ H => E cls d H) →
      PassesOwn (model P w) (cxOf (L2N.CX P w) P w K mg base N qual scope f cdv A outer s H E).A (cxOf (L2N.CX P w) P w K mg base N qual scope f cdv A outer s H E).env (cxOf (L2N.CX P w) P w K mg base N qual scope f cdv A outer s H E).xe → sp vs H Q E →
      ∃ t, PSs (cxOf (L2N.CX P w) P w K mg base N qual scope f cdv A outer s H E) body t ∧ t { nx := fun _ H' => Q .non H', rt := Q } (L2.start N vs) H) : FnOk P w K mg base (L2N.CX P w) (k + 1) f fd ps sp :=
  F.ok S len fun cdv A outer s H vs Q E hr h => hbody cdv A outer s H vs Q E hr (L2N.takes_of rfl rfl rfl rfl) (passes_of rfl) h
section
variable {K : PySem.W.Frag} {σ : L2.St} {H : Hp} {ta tb te : TE} {E : L2.St → XK}
theorem ev_isE {D a c : Addr} {b : Bool} (ha : Ev ta σ H (.ref a)) (e : PySem.W.kitOne K (.ref D) (.ref c) = some b) : Ev (tCB (rIsE K D a) (tCons ta (tCons (tC (.ref c)) tNil))) σ H (.bl b) := fun H1 e1 Q q =>
  ha H1 e1 _ fun H2 e2 => ⟨.ref c, .ref c, b, rfl, fun u r => r, e, q H2 e2⟩
theorem ev_isEt {D a : Addr} {n : String} {b : Bool} (ha : Ev ta σ H (.ref a)) (e : PySem.W.kitOne K (.ref D) (.type n) = some b) : Ev (tCB (rIsE K D a) (tCons ta (tCons (tC (.ty n)) tNil))) σ H (.bl b) := fun H1 e1 Q q =>
  ha H1 e1 _ fun H2 e2 => ⟨.ty n, .type n, b, rfl, fun u r => r, e, q H2 e2⟩
theorem ek_two {x y : List V} (ha : EvU ta σ H x) (hb : EvU tb σ H y) : EvK (tLst (tCons ta (tCons tb tNil))) σ H (RetTw [x, y]) := fun H1 e Q q =>
  ha H1 e _ fun p H2 hp e2 h2 => hb H2 (e.trans e2) _ fun r H3 hr e3 h3 => ⟨by show 2 ≤ sizeLine; exact sz_of (by decide), fun l hl => q l _ _ ((e2.trans e3).trans (Ex.new hl)) upd_same ⟨rfl, fun i z hz => by
    have n2 := e3 _ _ h2
    match i, hz with
    | 0, hz => exact ⟨p, rfl, by rw [upd_ne fun z => by rw [z, hl] at n2; cases n2]; cases hz; exact n2⟩
    | 1, hz => exact ⟨r, rfl, by rw [upd_ne fun z => by rw [z, hl] at h3; cases h3]; cases hz; exact h3⟩⟩⟩
theorem Tups.cat {vs us : List V} {xs ys : List (List V)} (h : Tups H vs xs) (g : Tups H us ys) : Tups H (vs ++ us) (xs ++ ys) := ⟨by rw [List.length_append, List.length_append, h.1, g.1], fun i x hx => by
  by_cases hi : i < xs.length
  · rw [List.getElem?_append_left hi] at hx
    rw [List.getElem?_append_left (by rw [h.1]; exact hi)]
    exact h.2 i x hx
  · rw [List.getElem?_append_right (by omega)] at hx
    rw [List.getElem?_append_right (by rw [h.1]; omega), h.1]
    exact g.2 _ x hx⟩
theorem ek_catT {xs ys : List (List V)} (ha : EvK ta σ H (RetTw xs)) (hb : EvK tb σ H (RetTw ys)) (hz : xs.length + ys.length ≤ 100000) : EvK (tOp rCat ta tb) σ H (RetTw (xs ++ ys)) := fun H1 e Q q =>
  ha H1 e _ fun a H2 us e2 h2 t2 => hb H2 (e.trans e2) _ fun b H3 vs e3 h3 t3 => ⟨a, b, us, vs, rfl, rfl, e3 _ _ h2, h3, sz_of (by rw [t2.1, t3.1]; exact hz), fun p hp =>
    q p _ _ ((e2.trans e3).trans (Ex.new hp)) upd_same (((t2.ex e3).cat t3).ex (Ex.new hp))⟩
/-- the words of the pairs that fit -/
theorem el_words {l : Addr} {us : List V} {ps : List (Str × Bool)} {tl : TE} {tt : TT} {i j : Nat} (h : Ev tl σ H (.ref l)) (hl : H l = some (.lst us)) (hT : Tups H us (ps.map fun p => [.str p.1, .bl p.2])) (hz : ps.length ≤ 40000) (hij : i ≠ j) (hi : i < σ.length)
    (hw : ∀ x y, wipe (((wipe σ [i, j]).set i (some x)).set j (some y)) [i, j] = wipe σ [i, j])
    (ht : ∀ (w : Str) (b : Bool) H1, Ex H H1 → EvT tt (((wipe σ [i, j]).set i (some (.str w))).set j (some (.bl b))) H1 b) :
    EvL (tLc (iList K tl) (gTup K 2 (gCons (gName i) (gCons (gName j) gNil))) tt (tVar i) [i, j]) σ H ((ps.filter (·.2)).map fun p => .str p.1) := by
  have hlen : us.length = ps.length := hT.1.trans (List.length_map _)
  have at_ : ∀ (n : Nat) (x : V), us[n]? = some x → ∃ q, x = .ref q ∧ ∀ H1, Ex H H1 → H1 q = some (.tup [.str (ps.getD n ("", false)).1, .bl (ps.getD n ("", false)).2]) := fun n x hx => by
    obtain ⟨q, y, rfl, hy, hq⟩ := hT.at hx
    rw [List.getElem?_map] at hy
    cases hp : ps[n]? with
    | none => rw [hp] at hy; cases hy
    | some p =>
      rw [hp] at hy
      cases hy
      rw [getD_of hp]
      exact ⟨q, rfl, fun H1 e => e _ _ hq⟩
  have r := el_lcS (K := K) (σ := σ) (H := H) (g := gTup K 2 (gCons (gName i) (gCons (gName j) gNil))) (t := tt) (te := tVar i) (vs := [i, j]) (fun n => ((wipe σ [i, j]).set i (some (.str (ps.getD n ("", false)).1))).set j (some (.bl (ps.getD n ("", false)).2))) (fun n => (ps.getD n ("", false)).2) (fun n => .str (ps.getD n ("", false)).1) (es_of h (sq_of hl)) (by omega)
    (fun n x H1 e1 hx Q qq => by
      obtain ⟨q, rfl, hq⟩ := at_ n x hx
      exact g_tup2 (hq H1 e1) qq)
    (fun n x hx => hw _ _) (fun n x H1 e1 hx => ht _ _ H1 e1) (fun n x H1 e1 hx _ => ev_var (by
      rw [List.getElem?_set_ne (Ne.symm hij), List.getElem?_set_self (by rw [wipe_length]; exact hi)]))
  rw [hlen] at r
  have eg : given ps.length (fun n => (ps.getD n ("", false)).2) (fun n => V.str (ps.getD n ("", false)).1) = (ps.filter (·.2)).map fun p => .str p.1 := by
    unfold given
    have := map_getD ps (("", false) : Str × Bool) id
    rw [List.map_id] at this
    conv => rhs; rw [← this]
    rw [List.filter_map, List.map_map]
    rfl
  rw [eg] at r
  exact r
theorem dp_strs : ∀ xs : List Str, DpAll K H (xs.map V.str) (xs.map PyData.str)
  | [] => .nil
  | x :: xs => .cons (.str x) (dp_strs xs)
theorem lay_strs : ∀ xs : List Str, xs.all PyData.strOk = true → PyData.canLayAll0 (xs.map PyData.str) = true ∧ PyData.depthAll (xs.map PyData.str) ≤ 1
  | [], _ => ⟨rfl, by rw [List.map_nil, PyData.depthAll]; omega⟩
  | x :: xs, h => by
    rw [List.all_cons, Bool.and_eq_true] at h
    obtain ⟨h1, h2⟩ := lay_strs xs h.2
    refine ⟨?_, ?_⟩
    · rw [List.map_cons, PyData.canLayAll0, h1, PyData.canLay0, h.1]
      rfl
    · rw [List.map_cons, PyData.depthAll, PyData.depth]
      omega
theorem shaped_strs (xs : List Str) (hx : xs.all PyData.strOk = true) : SeqAt.shaped (.list (xs.map PyData.str)) = true := by
  unfold SeqAt.shaped
  rw [PyData.canLay0, (lay_strs xs hx).1, Bool.true_and, decide_eq_true_iff, PyData.depth]
  have := (lay_strs xs hx).2
  omega
theorem eqv_strs : ∀ xs ys : List Str, PyData.eqvAll (xs.map PyData.str) (ys.map PyData.str) = decide (xs = ys)
  | [], [] => by simp [PyData.eqvAll]
  | [], y :: ys => by simp [PyData.eqvAll]
  | x :: xs, [] => by simp [PyData.eqvAll]
  | x :: xs, y :: ys => by
    rw [List.map_cons, List.map_cons, PyData.eqvAll, eqv_strs xs ys, PyData.eqv]
    by_cases h : x = y
    · subst h
      simp
    · simp [h]
theorem ev_strsEq {xs ys : List Str} (ha : EvL ta σ H (xs.map V.str)) (hb : EvL tb σ H (ys.map V.str)) (hx : xs.all PyData.strOk = true) (hy : ys.all PyData.strOk = true) : Ev (tOp (rEqD K) ta tb) σ H (.bl (decide (xs = ys))) := ev_opLL ha hb fun p q H1 hp hq e => by
  have r := rv_eqD (K := K) (H := H1) (x := .ref p) (y := .ref q) (d := .list (xs.map PyData.str)) (e := .list (ys.map PyData.str)) (fun _ e => .lst (sq_of (e _ _ hp)) (dp_strs xs)) (fun _ e => .lst (sq_of (e _ _ hq)) (dp_strs ys)) (shaped_strs _ hx) (shaped_strs _ hy)
  rw [PyData.eqv, eqv_strs] at r
  exact r
theorem ev_strsNil {p : Addr} {xs : List Str} (ha : Ev ta σ H (.ref p)) (h : H p = some (.lst (xs.map V.str))) (hx : xs.all PyData.strOk = true) : Ev (tOp (rEqD K) ta (tLst tNil)) σ H (.bl (decide (xs = []))) :=
  ev_opL ha (el_lst ea_nil (by simp)) fun q H1 hq e1 => by
    have r := rv_eqD (K := K) (H := H1) (x := .ref p) (y := .ref q) (d := .list (xs.map PyData.str)) (e := .list (([] : List Str).map PyData.str)) (fun _ e => .lst (sq_of (e _ _ (e1 _ _ h))) (dp_strs xs)) (fun _ e => .lst (sq_of (e _ _ hq)) (dp_strs [])) (shaped_strs _ hx) (shaped_strs _ rfl)
    rw [PyData.eqv, eqv_strs] at r
    exact r
theorem el_callS {xs : List V} {sp : Sp} {vs : List V} {t : TA} (h : EvA t σ H vs) (hs : ∀ H1, Ex H H1 → ∀ Q E, RetL xs H1 Q → sp vs H1 Q E) : EvL (tCallS sp E t) σ H xs := fun H1 e Q q =>
  h H1 e _ fun H2 e2 => hs H2 (e.trans e2) Q _ fun p H3 hp e3 h3 => q p H3 (fresh_back e2 hp) (e2.trans e3) h3
/-- a call out of which an exception comes -/
theorem s_callX {sp : Sp} {vs : List V} {W : L2.WX} {t : TA} {D : Ends} (h : EvA t σ H vs) (hs : ∀ H1, Ex H H1 → sp vs H1 (fun _ H' => D.nx σ H') (WE W σ)) : tDrop (tCallS sp (WE W) t) D σ H := h H (Ex.refl H) _ fun H1 e1 => hs H1 e1
end
/-- a question to an instance out of which an exception comes -/
theorem s_methX {C : Addr} {m : Str} {sp : Sp} {vs : List V} {W : L2.WX} {ta : TE} {t : TA} {D : Ends} {σ : L2.St} {H : Hp} {p dx : Addr} {fs : List (Str × V)} (ha : Ev ta σ H (.ref p)) (hp : H p = some (.ins C dx fs)) (hm : fs.lookup m = none) (h : EvA t σ H vs) (hs : ∀ H1, Ex H H1 → sp (.ref p :: vs) H1 (fun _ H' => D.nx σ H') (WE W σ)) : tDrop (tMethS C m sp (WE W) ta t) D σ H :=
  ha H (Ex.refl H) _ fun H1 e1 => ⟨p, dx, fs, rfl, e1 _ _ hp, hm, h H1 e1 _ fun H2 e2 => hs H2 (e1.trans e2)⟩
/-! ### webs refused -/
abbrev IW := Int × Int × Int
def wayI (w : IW) : List V := [.int w.1, .int w.2.1, .int w.2.2]
def natW (w : IW) : Way := (w.1.toNat, w.2.1.toNat, w.2.2.toNat)
def BadM (n : Nat) (m : Int) : Prop := m < 0 ∨ (n : Int) ≤ m
def BadW (n : Nat) (w : IW) : Prop := BadM n w.1 ∨ BadM n w.2.1
def BadD (w : IW) : Prop := w.2.2 < 0 ∨ 9999 < w.2.2
def BadC (m : Int) (ws : List IW) : Prop := m < 1 ∨ 12 < m ∨ 60 < ws.length
inductive Ref
  | count
  | meeting
  | delay
  | apart
  | fine
noncomputable def refOf (m : Int) (ws : List IW) : Ref := open Classical in
  if BadC m ws then .count else if ∃ w ∈ ws, BadW m.toNat w then .meeting else if ∃ w ∈ ws, BadD w then .delay else if WebOk m.toNat (ws.map natW) then .fine else .apart
theorem ref_count {m : Int} {ws : List IW} (h : BadC m ws) : refOf m ws = .count := if_pos h
theorem ref_meeting {m : Int} {ws : List IW} (h : ¬ BadC m ws) (h2 : ∃ w ∈ ws, BadW m.toNat w) : refOf m ws = .meeting := by
  unfold refOf
  rw [if_neg h, if_pos h2]
theorem ref_delay {m : Int} {ws : List IW} (h : ¬ BadC m ws) (h2 : ¬ ∃ w ∈ ws, BadW m.toNat w) (h3 : ∃ w ∈ ws, BadD w) : refOf m ws = .delay := by
  unfold refOf
  rw [if_neg h, if_neg h2, if_pos h3]
theorem ref_fine {m : Int} {ws : List IW} (h : ¬ BadC m ws) (h2 : ¬ ∃ w ∈ ws, BadW m.toNat w) (h3 : ¬ ∃ w ∈ ws, BadD w) (h4 : WebOk m.toNat (ws.map natW)) : refOf m ws = .fine := by
  unfold refOf
  rw [if_neg h, if_neg h2, if_neg h3, if_pos h4]
theorem ref_apart {m : Int} {ws : List IW} (h : ¬ BadC m ws) (h2 : ¬ ∃ w ∈ ws, BadW m.toNat w) (h3 : ¬ ∃ w ∈ ws, BadD w) (h4 : ¬ WebOk m.toNat (ws.map natW)) : refOf m ws = .apart := by
  unfold refOf
  rw [if_neg h, if_neg h2, if_neg h3, if_neg h4]
theorem tups_at {α : Type} {f : α → List V} {H : Hp} {vw : List V} {xs : List α} {i : Nat} {v : V} (h : Tups H vw (xs.map f)) (hv : vw[i]? = some v) : ∃ (q : Addr) (x : α), v = .ref q ∧ xs[i]? = some x ∧ x ∈ xs ∧ H q = some (.tup (f x)) := by
  obtain ⟨q, y, rfl, hy, hq⟩ := h.at hv
  rw [List.getElem?_map] at hy
  obtain ⟨x, hx, rfl⟩ := Option.map_eq_some_iff.mp hy
  exact ⟨q, x, rfl, hx, List.mem_of_getElem? hx, hq⟩
theorem nat_ways {n : Nat} {ws : List IW} (h1 : ¬ ∃ w ∈ ws, BadW n w) (h2 : ¬ ∃ w ∈ ws, BadD w) : ws.map wayI = (ws.map natW).map wayV := by
  rw [List.map_map]
  refine List.map_congr_left fun w hw => ?_
  have k1 : ¬ BadW n w := fun z => h1 ⟨w, hw, z⟩
  have k2 : ¬ BadD w := fun z => h2 ⟨w, hw, z⟩
  unfold BadW BadM at k1
  unfold BadD at k2
  show [V.int w.1, .int w.2.1, .int w.2.2] = [V.int (w.1.toNat : Int), .int (w.2.1.toNat : Int), .int (w.2.2.toNat : Int)]
  rw [Int.toNat_of_nonneg (by omega), Int.toNat_of_nonneg (by omega), Int.toNat_of_nonneg (by omega)]
theorem comeTo_full {n : Nat} {es : List (Nat × Nat)} (hn : 1 ≤ n) (he : ∀ e ∈ es, e.1 < n ∧ e.2 < n) (h : n ≤ (comeTo n es).length) : ∀ m, m < n → Reach es 0 m := fun m hm => by
  obtain ⟨nd, hmem⟩ := comeTo_mem hn he
  refine Classical.byContradiction fun hno => ?_
  have lt : ∀ x ∈ comeTo n es, x < n := fun x hx => by
    cases (hmem x).mp hx with
    | refl => omega
    | step _ e => exact (he _ e).2
  have hnot : m ∉ comeTo n es := fun z => hno ((hmem m).mp z)
  have := nodup_lt (l := m :: comeTo n es) (n := n) (List.nodup_cons.mpr ⟨hnot, nd⟩) fun x hx => by
    rcases List.mem_cons.mp hx with z | z
    · rw [z]
      exact hm
    · exact lt x z
  rw [List.length_cons] at this
  omega
def excOf (Dc Dm Dd Da : Addr) : Ref → Option Addr
  | .count => some Dc
  | .meeting => some Dm
  | .delay => some Dd
  | .apart => some Da
  | .fine => none
theorem fn_cx {P : Program} {w : World} {K : PySem.W.Frag} {mg : Str → Option Value} {base : Heap} {CX : CXT} {k : Nat} {f : Addr} {fd : FuncData} {ps : List Str} {sp : Sp} (F : FnOk P w K mg base CX0 k f fd ps sp) : FnOk P w K mg base CX k f fd ps sp :=
  ⟨F.len, fun A out s H ar us vs Q E hr e0 hb r h => codeAny_mono (F.run A out s H ar us vs Q E hr e0 hb r h) fun rs s' hq => match rs, hq with
    | .error _, z => False.elim z
    | .ok (.ret _), z => z
    | .ok .next, z => z
    | .ok .brk, z => z
    | .ok .cont, z => z⟩
theorem fn_or {P : Program} {w : World} {K : PySem.W.Frag} {mg : Str → Option Value} {base : Heap} {CX : CXT} {k : Nat} {f : Addr} {fd : FuncData} {ps : List Str} {sp sq : Sp} (F : FnOk P w K mg base CX k f fd ps sp) (G : FnOk P w K mg base CX k f fd ps sq) : FnOk P w K mg base CX k f fd ps (fun vs H Q E => sp vs H Q E ∨ sq vs H Q E) :=
  ⟨fun vs H Q E h => h.elim (F.len vs H Q E) (G.len vs H Q E), fun A out s H ar us vs Q E hr e0 hb r h => h.elim (F.run A out s H ar us vs Q E hr e0 hb r) (G.run A out s H ar us vs Q E hr e0 hb r)⟩
def spx_Web_need_meeting (C D : Addr) : Sp := fun vs H Q E => ∃ (p dx : Addr) (fs : List (Str × V)) (n : Nat) (m : Int), vs = [.ref p, .int m] ∧ H p = some (.ins C dx fs) ∧ fs.lookup ("many" : Str) = some (.int (n : Int)) ∧ (¬ BadM n m → RetV .non H Q) ∧ (BadM n m → ∀ H1, Ex H H1 → E (.ref D) none H1)
theorem okx_Web_need_meeting (T : Txt K mg) : FnOk P w K mg base (L2N.CX P w) 1 T.a_Web_need_meeting T.d_Web_need_meeting ["self", "meeting"] (spx_Web_need_meeting T.a_Web T.a_NoMeeting) := by
  refine okX T.F_Web_need_meeting sc_Web_need_meeting (fun vs H Q E h => ?_) (fun cdv A outer s H vs Q E HR TK PO h => ?_)
  · obtain ⟨p, dx, fs, n, m, rfl, _⟩ := h
    rfl
  · obtain ⟨p, dx, fs, n, m, rfl, hp, hf, q0, q1⟩ := h
    refine ⟨_, (pss_one (ps_if (PW.pt (pw_or (pt_cmpR op_lt (pv 1) pe_int (nomark _)) (pw_or1 (pt_cmpR op_ge (pv 1) (pe_fld (pv 0) rfl) (nomark _)))))
  (pss_one (L2N.ps_raise rfl TK (L2N.pmk_own PySem.F.excBase_ValueError T.X_NoMeeting.x T.g_NoMeeting T.X_NoMeeting.k (raises_own T.X_NoMeeting.b T.X_NoMeeting.t) (by rfl)))) pss_nil)), ?_⟩
    refine s_when (b := decide (m < 0) || decide ((n : Int) ≤ m)) (et_or (a := decide (m < 0)) (et_test (ev_op (ev_var rfl) ev_c rv_I0)) fun _ => et_test (ev_op (ev_var rfl) (ev_fld (ev_var rfl) hp T.cl_Web T.na_many hf) rv_I0)) (fun hb H1 e1 => q1 (by simpa [BadM] using hb) H1 e1) (fun hb H1 e1 => q0 (by simp only [Bool.or_eq_false_iff, decide_eq_false_iff_not] at hb; unfold BadM; omega) H1 e1)
theorem q_dropX {C : Addr} {m : Str} {sp : Sp} {vs : List V} {W : L2.WX} {ta : TE} {t : TA} {D : Ends} {tz : TS} {σ : L2.St} {H : Hp} {p dx : Addr} {fs : List (Str × V)} (ha : Ev ta σ H (.ref p)) (hp : H p = some (.ins C dx fs)) (hm : fs.lookup m = none) (h : EvA t σ H vs) (hs : ∀ H1, Ex H H1 → sp (.ref p :: vs) H1 (fun _ H' => tz D σ H') (WE W σ)) : tSeq (tDrop (tMethS C m sp (WE W) ta t)) tz D σ H :=
  ha H (Ex.refl H) _ fun H1 e1 => ⟨p, dx, fs, rfl, e1 _ _ hp, hm, h H1 e1 _ fun H2 e2 => hs H2 (e1.trans e2)⟩
theorem ev_tupsEq0 {K : PySem.W.Frag} {σ : L2.St} {H : Hp} {ta : TE} {p : Addr} {vs : List V} {α : Type} {f : α → List Int} {xs : List α} (ha : Ev ta σ H (.ref p)) (h : H p = some (.lst vs)) (ht : Tups H vs (xs.map fun x => (f x).map V.int)) : Ev (tOp (rEqD K) ta (tLst tNil)) σ H (.bl xs.isEmpty) :=
  ev_opL ha (el_lst ea_nil (by simp)) fun q H1 hq e1 => by
    have r := rv_eqD (K := K) (H := H1) (x := .ref p) (y := .ref q) (dp_tl (e1 _ _ h) (ht.ex e1)) (dp_il (xs := []) hq) (shaped_tups _ _) (shaped_ints _)
    cases xs with
    | nil =>
      rw [PyData.eqv, List.map_nil, List.map_nil, PyData.eqvAll] at r
      exact r
    | cons x xs =>
      rw [PyData.eqv, List.map_cons, List.map_nil, PyData.eqvAll] at r
      exact r
/-- for x in .., an if alone -/
theorem g_when {σ : L2.St} {H : Hp} {D : Ends} {t : TT} {tu : TS} {i : Nat} {x : V} {b : Bool} (h : EvT t (σ.set i (some x)) H b) (h1 : b = true → ∀ H1, Ex H H1 → tu D (σ.set i (some x)) H1) (h2 : b = false → ∀ H1, Ex H H1 → D.nx (σ.set i (some x)) H1) : gName i x σ H fun σ2 H2 => tIfS t tu tNext D σ2 H2 := s_when (D := D) h h1 h2
def spr_Web_init (C Dc Dm Dd Da : Addr) : Sp := fun vs H _ E => ∃ (p dx lw0 : Addr) (m : Int) (ws : List IW) (vw : List V) (D : Addr), vs = [.ref p, .int m, .ref lw0] ∧ H p = some (.ins C dx []) ∧ H lw0 = some (.lst vw) ∧ Tups H vw (ws.map wayI) ∧ ws.length ≤ 100 ∧ excOf Dc Dm Dd Da (refOf m ws) = some D ∧ ∀ H1, ExB p H H1 → E (.ref D) none H1
theorem okr_Web_init (T : Txt K mg) : FnOk P w K mg base (L2N.CX P w) 2 T.a_Web_init T.d_Web_init ["self", "many", "ways"] (spr_Web_init T.a_Web T.a_BadCount T.a_NoMeeting T.a_BadDelay T.a_Apart) := by
  refine okX T.F_Web_init sc_Web_init (fun vs H Q E h => ?_) (fun cdv A outer s H vs Q E HR TK PO h => ?_)
  · obtain ⟨p, dx, lw0, m, ws, vw, D, rfl, _⟩ := h
    rfl
  · obtain ⟨p, dx, lw0, m, ws, vw, D, rfl, hp, hl, hT, hwl, hD, q⟩ := h
    have hvl : vw.length = ws.length := hT.1.trans (List.length_map _)
    refine ⟨_, (pss_cons (ps_if (PW.pt (pw_or (pt_cmpR op_lt (pv 1) pe_int (nomark _)) (pw_or (pt_cmpR op_gt (pv 1) (pe_glob (v := .int 12) (by rfl) T.g_MOST_MEETINGS.choose_spec ⟨_, rfl⟩) (nomark _)) (pw_or1 (pt_cmpR op_gt (pe_callB call_len_seq (by rfl) T.n_len boot_len (pa_cons (pv 2) pa_nil)) (pe_glob (v := .int 60) (by rfl) T.g_MOST_WAYS.choose_spec ⟨_, rfl⟩) (nomark _))))))
  (pss_one (L2N.ps_raise rfl TK (L2N.pmk_own PySem.F.excBase_ValueError T.X_BadCount.x T.g_BadCount T.X_BadCount.k (raises_own T.X_BadCount.b T.X_BadCount.t) (by rfl)))) pss_nil)
  (pss_cons (ps_fld (pv 0) (pv 1) rfl)
  (pss_cons (ps_fld (pv 0) (pe_callTy call_list_of (by rfl) T.n_list (by decide +kernel) (pa_cons (pv 2) pa_nil)) rfl)
  (pss_cons (ps_for PO rfl (pi_list (pe_fld (pv 0) rfl)) (pg_name (i := 3) sc_Web_init.nd rfl (by first | exact Or.inl rfl | exact Or.inr rfl))
  (pss_cons (ps_expr (pe_methS (pv 0) T.cl_Web T.m_Web_need_meeting (okx_Web_need_meeting T) (HR.mono (by decide)) T.b_Web_need_meeting (fun σ => L2N.passAt TK σ) (pa_cons (pe_ix ix_tup (pv 3) pe_int (fun _ _ => rfl)) pa_nil)))
  (pss_one (ps_expr (pe_methS (pv 0) T.cl_Web T.m_Web_need_meeting (okx_Web_need_meeting T) (HR.mono (by decide)) T.b_Web_need_meeting (fun σ => L2N.passAt TK σ) (pa_cons (pe_ix ix_tup (pv 3) pe_int (fun _ _ => rfl)) pa_nil))))))
  (pss_cons (ps_for PO rfl (pi_list (pe_fld (pv 0) rfl)) (pg_name (i := 3) sc_Web_init.nd rfl (by first | exact Or.inl rfl | exact Or.inr rfl))
  (pss_one (ps_if (PW.pt (pw_or (pt_cmpR op_lt (pe_ix ix_tup (pv 3) pe_int (fun _ _ => rfl)) pe_int (nomark _)) (pw_or1 (pt_cmpR op_gt (pe_ix ix_tup (pv 3) pe_int (fun _ _ => rfl)) (pe_glob (v := .int 9999) (by rfl) T.g_GREATEST.choose_spec ⟨_, rfl⟩) (nomark _)))))
  (pss_one (L2N.ps_raise rfl TK (L2N.pmk_own PySem.F.excBase_ValueError T.X_BadDelay.x T.g_BadDelay T.X_BadDelay.k (raises_own T.X_BadDelay.b T.X_BadDelay.t) (by rfl)))) pss_nil)))
  (pss_cons (ps_setLc (i := 4) (g := (gName 3)) (tt := tYes) (te := (tTup (tCons (tOp (rIxT K) (tVar 3) (tC (.int 0))) (tCons (tOp (rIxT K) (tVar 3) (tC (.int 1))) tNil)))) (own := [("way", 3)]) rfl sc_Web_init.nd rfl rfl (sw_true rfl rfl rfl (by decide +kernel)) (pi_list (pe_fld (pv 0) rfl)) (blkOk_by (own := [("way", 3)]) (N := N_Web_init) (sc := defScope s_Web_init) (by decide +kernel)) (fun _ _ _ _ _ => (pg_name (i := 3) sc_Web_init.nd rfl (by first | exact Or.inl rfl | exact Or.inr rfl))) (fun _ _ _ _ _ => pts_nil) (fun _ _ _ _ _ => (pe_tup (pa_cons (pe_ix ix_tup (pv 3) pe_int (fun _ _ => rfl)) (pa_cons (pe_ix ix_tup (pv 3) pe_int (fun _ _ => rfl)) pa_nil)))))
  (pss_cons (ps_setLc (i := 5) (g := (gName 3)) (tt := tYes) (te := (tTup (tCons (tOp (rIxT K) (tVar 3) (tC (.int 1))) (tCons (tOp (rIxT K) (tVar 3) (tC (.int 0))) tNil)))) (own := [("way", 3)]) rfl sc_Web_init.nd rfl rfl (sw_true rfl rfl rfl (by decide +kernel)) (pi_list (pe_fld (pv 0) rfl)) (blkOk_by (own := [("way", 3)]) (N := N_Web_init) (sc := defScope s_Web_init) (by decide +kernel)) (fun _ _ _ _ _ => (pg_name (i := 3) sc_Web_init.nd rfl (by first | exact Or.inl rfl | exact Or.inr rfl))) (fun _ _ _ _ _ => pts_nil) (fun _ _ _ _ _ => (pe_tup (pa_cons (pe_ix ix_tup (pv 3) pe_int (fun _ _ => rfl)) (pa_cons (pe_ix ix_tup (pv 3) pe_int (fun _ _ => rfl)) pa_nil)))))
  (pss_cons (ps_if (PW.pt (pw_or (pt_cmpR (op_eqD HR.units) (pv 4) (pe_lst pa_nil) (nomark _)) (pw_or (pt_cmpR op_lt (pe_call (ok_come_to T) (HR.mono (by decide)) (by rfl) T.g_come_to T.F_come_to.kp T.b_come_to .nil pass0 (pa_cons (pv 1) (pa_cons (pv 4) pa_nil))) (pv 1) (nomark _)) (pw_or1 (pt_cmpR op_lt (pe_call (ok_come_to T) (HR.mono (by decide)) (by rfl) T.g_come_to T.F_come_to.kp T.b_come_to .nil pass0 (pa_cons (pv 1) (pa_cons (pv 5) pa_nil))) (pv 1) (nomark _))))))
  (pss_one (L2N.ps_raise rfl TK (L2N.pmk_own PySem.F.excBase_ValueError T.X_Apart.x T.g_Apart T.X_Apart.k (raises_own T.X_Apart.b T.X_Apart.t) (by rfl)))) pss_nil)
  (pss_cons (ps_fld (pv 0) (pe_lc (g := (gName 6)) (tt := tYes) (te := (tLst tNil)) (own := [("meeting", 6)]) rfl sc_Web_init.nd (pi_range1 (by rfl) T.n_range (pa_cons (pv 1) pa_nil)) (blkOk_by (own := [("meeting", 6)]) (N := N_Web_init) (sc := defScope s_Web_init) (by decide +kernel)) (fun _ _ _ _ _ => (pg_name (i := 6) sc_Web_init.nd rfl (by first | exact Or.inl rfl | exact Or.inr rfl))) (fun _ _ _ _ _ => pts_nil) (fun _ _ _ _ _ => (pe_lst pa_nil))) rfl)
  (pss_one (ps_for PO rfl (pi_list (pe_fld (pv 0) rfl)) (pg_name (i := 3) sc_Web_init.nd rfl (by first | exact Or.inl rfl | exact Or.inr rfl))
  (pss_one (ps_expr (pe_bm PySem.F.plainAttrs_list PySem.F.slot_list_append PySem.F.type_list_append mt_append (pe_ix ix_list (pe_fld (pv 0) rfl) (pe_ix ix_tup (pv 3) pe_int (fun _ _ => rfl)) (fun _ _ => rfl)) (pa_cons (pe_tup (pa_cons (pe_ix ix_tup (pv 3) pe_int (fun _ _ => rfl)) (pa_cons (pe_ix ix_tup (pv 3) pe_int (fun _ _ => rfl)) pa_nil))) pa_nil))))))))))))))), ?_⟩
    have tst : EvT (tOr (tTest (tOp (rI0 fun i j => V.bl (decide (i < j))) (tVar 1) (tC (.int 1)))) (tOr (tTest (tOp (rI0 fun i j => V.bl (decide (j < i))) (tVar 1) (tC (.int 12)))) (tTest (tOp (rI0 fun i j => V.bl (decide (j < i))) (tCB (rLenS K) (tCons (tVar 2) tNil)) (tC (.int 60)))))) [some (.ref p), some (.int m), some (.ref lw0), none, none, none, none] H (decide (m < 1) || (decide (12 < m) || decide ((60 : Int) < (ws.length : Int)))) :=
      et_or (a := decide (m < 1)) (et_test (ev_op (ev_var rfl) ev_c rv_I0)) fun _ => et_or (a := decide (12 < m)) (et_test (ev_op (ev_var rfl) ev_c rv_I0)) fun _ => et_test (ev_op (ev_is (ev_len (ev_var rfl) (sq_of hl)) (by rw [hvl])) ev_c rv_I0)
    by_cases hc : BadC m ws
    · rw [ref_count hc] at hD
      obtain rfl : T.a_BadCount = D := Option.some.inj hD
      refine q_when (b := true) (et_is tst ?_) (fun _ H1 e1 => q H1 (.of e1)) (fun z => by cases z)
      unfold BadC at hc
      rcases hc with z | z | z
      · rw [decide_eq_true z]
        rfl
      · rw [decide_eq_true z]
        simp
      · rw [decide_eq_true (show (60 : Int) < (ws.length : Int) by omega)]
        simp
    obtain ⟨n, rfl⟩ : ∃ n : Nat, m = (n : Int) := ⟨m.toNat, by unfold BadC at hc; omega⟩
    have hc2 := hc
    unfold BadC at hc2
    have hn1 : 1 ≤ n := by omega
    have hn12 : n ≤ 12 := by omega
    have hl60 : ws.length ≤ 60 := by omega
    refine q_when (b := false) (et_is tst (by rw [decide_eq_false (by omega), decide_eq_false (by omega), decide_eq_false (by omega)]; rfl)) (fun z => by cases z) fun _ H1 e1 => ?_
    refine q_fldK (C := RetV (.int (n : Int))) (ev_var rfl) fun H2 e2 => fld_go (p := p) rfl T.cl_Web T.na_many (e2 _ _ (e1 _ _ hp)) (by simp) ?_
    have b2 : ExB p H (upd H2 p (.ins T.a_Web dx (wf1 n))) := (ExB.of (e1.trans e2)).trans .upd
    have n2 : lw0 ≠ p := fun z => by rw [z, hp] at hl; cases hl
    generalize hH3 : upd H2 p (.ins T.a_Web dx (wf1 n)) = H3 at b2
    have p3 : H3 p = some (.ins T.a_Web dx (wf1 n)) := by rw [← hH3, upd_same]
    show tSeq _ _ _ _ (upd H2 p (.ins T.a_Web dx (wf1 n)))
    rw [hH3]
    have l3 : H3 lw0 = some (.lst vw) := b2 _ _ hl n2
    refine q_fldK (C := RetL vw) (el_list (ev_var rfl) (sq_of l3)) fun lw H4 hlw e4 h4 => fld_go (p := p) rfl T.cl_Web T.na_ways (e4 _ _ p3) (by have := putF_len ("many" : Str) (.int (n : Int)) []; unfold wf1; simp only [List.length_nil] at this; omega) ?_
    have n4 : lw ≠ p := fun z => by rw [z, p3] at hlw; cases hlw
    have b4 : ExB p H (upd H4 p (.ins T.a_Web dx (wf2 n lw))) := (b2.trans (.of e4)).trans .upd
    have l5 : upd H4 p (.ins T.a_Web dx (wf2 n lw)) lw = some (.lst vw) := by rw [upd_ne n4]; exact h4
    have t5 : Tups (upd H4 p (.ins T.a_Web dx (wf2 n lw))) vw (ws.map wayI) := hT.exb b4 hp
    show tSeq _ _ _ _ (upd H4 p (.ins T.a_Web dx (wf2 n lw)))
    have p5 : upd H4 p (.ins T.a_Web dx (wf2 n lw)) p = some (.ins T.a_Web dx (wf2 n lw)) := upd_same
    generalize upd H4 p (.ins T.a_Web dx (wf2 n lw)) = H5 at b4 l5 t5 p5
    have fld5 : ∀ {σ : L2.St} {H' : Hp} {i : Nat}, Ex H5 H' → σ[i]? = some (some (.ref p)) → Ev (tFld K (tVar i) "ways") σ H' (.ref lw) := fun e h => ev_fld (ev_var h) (e _ _ p5) T.cl_Web T.na_ways (wf2_ways n lw)
    refine q_forL (a := lw) (xs := vw) (fld5 (Ex.refl _) rfl) (sq_of l5) (fun i σ' H' => ∃ r3 : Option V, σ' = [some (.ref p), some (.int (n : Int)), some (.ref lw0), r3, none, none, none] ∧ (∀ k w, k < i → ws[k]? = some w → ¬ BadW n w) ∧ Ex H5 H') (fun H6 e6 => ⟨none, rfl, fun k w hk => by omega, e6⟩) (fun i σ' H' _ ⟨_, _, _, e⟩ => sq_of (e _ _ l5)) ?_ ?_
    · rintro i x σ' H' hx ⟨r3, rfl, hall, e⟩
      obtain ⟨qa, w, rfl, hwi, hmem, hqa⟩ := tups_at (t5.ex e) hx
      have bad : BadW n w → ∀ H8, Ex H5 H8 → E (.ref T.a_NoMeeting) none H8 := fun z H8 e8 => by
        rw [ref_meeting hc ⟨w, hmem, z⟩] at hD
        obtain rfl : T.a_NoMeeting = D := Option.some.inj hD
        exact q H8 (b4.trans (.of e8))
      refine q_dropX (ev_var rfl) (e _ _ p5) (nm_look2 n lw) (ea_cons (ev_op (ev_var rfl) ev_c (rv_ixT (st_of hqa) rfl)) ea_nil) fun H6 e6 => ⟨p, dx, _, n, _, rfl, (e.trans e6) _ _ p5, wf2_many n lw, fun g1 H7 e7 => ?_, fun z H7 e7 => bad (.inl z) H7 ((e.trans e6).trans e7)⟩
      have e57 := (e.trans e6).trans e7
      refine s_methX (ev_var rfl) (e57 _ _ p5) (nm_look2 n lw) (ea_cons (ev_op (ev_var rfl) ev_c (rv_ixT (st_of ((e6.trans e7) _ _ hqa)) rfl)) ea_nil) fun H8 e8 => ⟨p, dx, _, n, _, rfl, (e57.trans e8) _ _ p5, wf2_many n lw, fun g2 H9 e9 => ⟨_, rfl, fun k w' hk hw' => ?_, (e57.trans e8).trans e9⟩, fun z H9 e9 => bad (.inr z) H9 ((e57.trans e8).trans e9)⟩
      by_cases hk2 : k < i
      · exact hall k w' hk2 hw'
      · rw [show k = i by omega, hwi] at hw'
        cases hw'
        exact fun z => z.elim g1 g2
    rintro σ' H' ⟨r3, rfl, hallW, e6⟩
    have goodW : ¬ ∃ w ∈ ws, BadW n w := fun ⟨w, hw, z⟩ => by
      obtain ⟨k, hk⟩ := List.mem_iff_getElem?.mp hw
      exact hallW k w (by rw [hvl]; exact (List.getElem?_eq_some_iff.mp hk).1) hk z
    refine q_forL (a := lw) (xs := vw) (fld5 e6 rfl) (sq_of (e6 _ _ l5)) (fun i σ' H' => ∃ r3 : Option V, σ' = [some (.ref p), some (.int (n : Int)), some (.ref lw0), r3, none, none, none] ∧ (∀ k w, k < i → ws[k]? = some w → ¬ BadD w) ∧ Ex H5 H') (fun H6 e7 => ⟨_, rfl, fun k w hk => by omega, e6.trans e7⟩) (fun i σ' H' _ ⟨_, _, _, e⟩ => sq_of (e _ _ l5)) ?_ ?_
    · rintro i x σ' H' hx ⟨r3, rfl, hall, e⟩
      obtain ⟨qa, w, rfl, hwi, hmem, hqa⟩ := tups_at (t5.ex e) hx
      refine g_when (b := decide (w.2.2 < 0) || decide (9999 < w.2.2)) (et_or (a := decide (w.2.2 < 0)) (et_test (ev_op (ev_op (ev_var rfl) ev_c (rv_ixT (st_of hqa) rfl)) ev_c rv_I0)) fun _ => et_test (ev_op (ev_op (ev_var rfl) ev_c (rv_ixT (st_of hqa) rfl)) ev_c rv_I0)) (fun hb H7 e7 => ?_) (fun hb H7 e7 => ?_)
      · have z : BadD w := by simpa [BadD] using hb
        rw [ref_delay hc goodW ⟨w, hmem, z⟩] at hD
        obtain rfl : T.a_BadDelay = D := Option.some.inj hD
        exact q H7 (b4.trans (.of (e.trans e7)))
      · refine ⟨_, rfl, fun k w' hk hw' => ?_, e.trans e7⟩
        by_cases hk2 : k < i
        · exact hall k w' hk2 hw'
        · rw [show k = i by omega, hwi] at hw'
          cases hw'
          simp only [Bool.or_eq_false_iff, decide_eq_false_iff_not] at hb
          unfold BadD
          omega
    rintro σ' H' ⟨r3', rfl, hallD, e7⟩
    have goodD : ¬ ∃ w ∈ ws, BadD w := fun ⟨w, hw, z⟩ => by
      obtain ⟨k, hk⟩ := List.mem_iff_getElem?.mp hw
      exact hallD k w (by rw [hvl]; exact (List.getElem?_eq_some_iff.mp hk).1) hk z
    have hno : ¬ WebOk n (ws.map natW) := fun z => by
      rw [ref_fine hc goodW goodD z] at hD
      cases hD
    rw [ref_apart hc goodW goodD hno] at hD
    obtain rfl : T.a_Apart = D := Option.some.inj hD
    rw [nat_ways goodW goodD] at t5
    have hends : ∀ w ∈ ws.map natW, w.1 < n ∧ w.2.1 < n := fun w hw => by
      obtain ⟨v, hv, rfl⟩ := List.mem_map.mp hw
      have k1 : ¬ BadW n v := fun z => goodW ⟨v, hv, z⟩
      unfold BadW BadM at k1
      show v.1.toNat < n ∧ v.2.1.toNat < n
      omega
    have hdel : ∀ w ∈ ws.map natW, w.2.2 ≤ 9999 := fun w hw => by
      obtain ⟨v, hv, rfl⟩ := List.mem_map.mp hw
      have k2 : ¬ BadD v := fun z => goodD ⟨v, hv, z⟩
      unfold BadD at k2
      show v.2.2.toNat ≤ 9999
      omega
    have hnl : (ws.map natW).length ≤ 60 := by rw [List.length_map]; exact hl60
    generalize ws.map natW = nws at t5 hno hends hdel hnl
    refine q_asgK (el_wayPairs (fun w => (w.1, w.2.1)) (fld5 e7 rfl) (e7 _ _ l5) (t5.ex e7) hnl rfl (fun x => rfl) (fun x => rfl) (fun w => rfl) (fun w => rfl)) fun D1 H8 us1 hD1 e8 h8 t8 => ?_
    have e58 := e7.trans e8
    refine q_asgK (el_wayPairs (fun w => (w.2.1, w.1)) (fld5 e58 rfl) (e58 _ _ l5) (t5.ex e58) hnl rfl (fun x => rfl) (fun x => rfl) (fun w => rfl) (fun w => rfl)) fun D2 H9 us2 hD2 e9 h9 t9 => ?_
    have e59 := e58.trans e9
    have len1 : (edges nws).length ≤ 100 := by unfold edges; rw [List.length_map]; omega
    have len2 : (redges nws).length ≤ 100 := by unfold redges; rw [List.length_map]; omega
    have ee : ∀ e ∈ edges nws, e.1 < n ∧ e.2 < n := fun e he => by obtain ⟨w, hw2, rfl⟩ := List.mem_map.mp he; exact hends w hw2
    have er : ∀ e ∈ redges nws, e.1 < n ∧ e.2 < n := fun e he => by obtain ⟨w, hw2, rfl⟩ := List.mem_map.mp he; exact ⟨(hends w hw2).2, (hends w hw2).1⟩
    refine q_when (b := true) (et_is (et_or (a := (edges nws).isEmpty) (et_test (ev_tupsEq0 (f := fun (p : Nat × Nat) => [(p.1 : Int), (p.2 : Int)]) (ev_var rfl) (e9 _ _ h8) (t8.ex e9))) fun _ =>
      et_or (a := decide (((comeTo n (edges nws)).length : Int) < (n : Int))) (et_test (ev_op (ev_callV (z := .int ((comeTo n (edges nws)).length : Int)) (ea_cons (ev_var rfl) (ea_cons (ev_var rfl) ea_nil)) fun H1 e1 Q E k => ⟨n, D1, edges nws, us1, rfl, e1 _ _ (e9 _ _ h8), (t8.ex e9).ex e1, hn12, len1, k⟩) (ev_var rfl) rv_I0)) fun _ =>
      et_test (ev_op (ev_callV (z := .int ((comeTo n (redges nws)).length : Int)) (ea_cons (ev_var rfl) (ea_cons (ev_var rfl) ea_nil)) fun H1 e1 Q E k => ⟨n, D2, redges nws, us2, rfl, e1 _ _ h9, t9.ex e1, hn12, len2, k⟩) (ev_var rfl) rv_I0)) ?_) (fun _ H10 e10 => q H10 (b4.trans (.of (e59.trans e10)))) (fun z => by cases z)
    refine Classical.byContradiction fun hz => hno ?_
    simp only [Bool.not_eq_true, Bool.or_eq_false_iff, decide_eq_false_iff_not] at hz
    obtain ⟨z1, z2, z3⟩ := hz
    refine ⟨hn1, hn12, hnl, hends, hdel, fun z => ?_, comeTo_full hn1 ee (by omega), comeTo_full hn1 er (by omega)⟩
    rw [z] at z1
    cases z1
def spx_Web_init (C Dc Dm Dd Da : Addr) : Sp := fun vs H Q E => sp_Web_init C vs H Q E ∨ spr_Web_init C Dc Dm Dd Da vs H Q E
theorem okx_Web_init (T : Txt K mg) : FnOk P w K mg base (L2N.CX P w) 2 T.a_Web_init T.d_Web_init ["self", "many", "ways"] (spx_Web_init T.a_Web T.a_BadCount T.a_NoMeeting T.a_BadDelay T.a_Apart) := fn_or (fn_cx (ok_Web_init T)) (okr_Web_init T)
/-! ### a class that is called, an exception coming out of its __init__ -/
section
variable {X : Cx} {CX : CXT} {k : Nat} {f C : Addr} {fd : FuncData} {ps : List Str} {sp : Sp} {E : L2.St → XK} {x : Str} {q pos : Pos} {e : Expr} {es : List Expr} {t : TA}
def tMakeS (C : Addr) (sp : Sp) (E : L2.St → XK) (t : TA) : TE := fun σ H Q => t σ H fun vs H1 => ∀ y dx, H1 y = none → H1 dx = none → dx ≠ y → sp (.ref y :: vs) (upd (upd H1 dx (.own y)) y (.ins C dx [])) (fun v H2 => v = .non ∧ Q (.ref y) H2) (E σ)
theorem pe_makeS (M : Mk X.K C f) (F : FnOk X.prog X.w X.K X.mg X.base CX k f fd ps sp) (hr : Room (k + 1) X.A) (hg : Gl X x) (hm : X.mg x = some (.ref C)) (hb : Binds X.K fd ps []) (hx : ∀ σ, PassesAt CX X σ (E σ))
    (ha : PA X (e :: es) t) (hdb : (x == ("__debug__" : Str)) = false := by decide) (he : starEach (e :: es) X.env = (false, eval e X.env) :: starEach es X.env := by rfl) (hpl : (backTo pos (starEach es X.env)).any (·.1) = false := by rfl) :
    PE X (.Call (.Name x q) (e :: es) [] pos) (tMakeS C sp E t) := by
  refine ⟨fun pins s0 σ H0 Q J0 h => wpAny_Call_Name_kw (ld_glob J0 hg hm ?_ hdb)⟩
  refine PySem.W.callWith_K (h₀ := X.base) J0.ok.mod.kin M.kp (thn (ha.run pos pins s0 σ H0 _ J0 h) fun us s ⟨vs, H, J, r, k1⟩ => ⟨J.kIn, ?_⟩) he hpl
  have hq := k1 (s.heap.objs.size + 1) s.heap.objs.size (J.hok.fresh (Nat.le_succ _)) (J.hok.fresh (Nat.le_refl _)) (Nat.ne_of_lt (Nat.lt_succ_self _))
  have J2 := Inv.made (C := C) J
  have r2 : Vals (V.ref (s.heap.objs.size + 1) :: vs) (Value.ref (s.heap.objs.size + 1) :: us) := .cons rfl r
  have b := hb _ (Value.ref (s.heap.objs.size + 1) :: us) J2.kIn (by rw [List.append_nil, ← r2.length]; exact F.len _ _ _ _ hq)
  rw [List.append_nil] at b
  refine wpAny_call (make_map (f := f) J.kIn M.makes M.init (beq_iff_eq.mp M.fn) (codeAny_mono (F.run _ X.stack _ _ ⟨Value.ref (s.heap.objs.size + 1) :: us, []⟩ (Value.ref (s.heap.objs.size + 1) :: us) _ _ (E σ) (hr.make C us []) (J2.env0.make C us []) b r2 hq) fun rs s' hq' => ?_))
  match rs, hq' with
  | .error e, z => exact hx σ pins _ _ e s' J2 z
  | .ok (.ret u), z =>
    obtain ⟨v, H', J3, rv, ev, q3⟩ := J2.after z
    subst ev
    exact ⟨rv, ⟨V.ref (s.heap.objs.size + 1), H', J3, rfl, q3⟩⟩
  | .ok .next, z => exact False.elim z
  | .ok .brk, z => exact False.elim z
  | .ok .cont, z => exact False.elim z
end
/-! ### a block's list, as a value, where an exception is handled; its word -/
section
open HotX L2H
theorem pe_lcH {X : Cx} {elt tg iter : Expr} {ifs : List Expr} {sc : Scope} {own : List (Str × Nat)} {pos : Pos} {wi : TI} {g : TG} {tt : TT} {te : TE} (hot : HotC X) (nd : X.N.Nodup) (pi : PIH X tg iter wi) (bo : BlkOk X.N X.env.scope sc own)
    (hG : ∀ (s : Shared) (H : Hp) (C : Addr) (cl : List (Str × Addr)) (fp : List Addr), PG (blkH X s H sc (compEnvC sc cl C X.env) fp) tg g)
    (hT : ∀ (s : Shared) (H : Hp) (C : Addr) (cl : List (Str × Addr)) (fp : List Addr), PTs (blkH X s H sc (compEnvC sc cl C X.env) fp) ifs tt)
    (hE : ∀ (s : Shared) (H : Hp) (C : Addr) (cl : List (Str × Addr)) (fp : List Addr), PE (blkH X s H sc (compEnvC sc cl C X.env) fp) elt te) (hF : ∀ x, foldedSetIterable iter X.env x = pure x := by intro _; rfl) :
    PE X (.ListComp elt [⟨tg, iter, ifs, 0⟩] sc pos) (tLc wi g tt te (own.map (·.2))) := by
  refine ⟨fun pins t0 σ H Q J hq => ?_⟩
  rw [eval_ListComp]
  exact lc_coreH hot nd J pi bo hG hT hE hF hq fun L C t m H' J' q hn f' => ⟨m, hn, fun h3 sb3 => ⟨.ref L, H', J'.turned (t' := t.toks) (fun b o hb e => (sb3.2 b hb).trans e) f'.1 f'.2.1 f'.2.2.2.1 f'.2.2.2.2.1 f'.2.2.2.2.2, rfl, q⟩⟩
end
def wordsOf (b1 b2 b3 b4 b5 b6 : Bool) : List Str := (([("count", b1), ("meeting", b2), ("delay", b3), ("apart", b4), ("ring", b5), ("pace", b6)] : List (Str × Bool)).filter (·.2)).map (·.1)
def IsExc (D : Addr) (p : Addr × Obj) : Prop := Zc (.ref D) none p.2 ∧ ∃ vs, p.2.data = .fields vs
theorem isExc_of {D a : Addr} {oe : Obj} (hz : L2N.Zn (.ref D) none oe) (hf : ∃ vs, oe.data = .fields vs) : IsExc D (a, oe) := ⟨⟨hz.1, hz.2.1⟩, hf⟩
def rJoinK (K : PySem.W.Frag) : V → List V → Hp → VK → Prop := fun x xs H Q => ∃ a p, ∃ ys : List Str, x = .str a ∧ xs = [.ref p] ∧ (SqL K H p (ys.map V.str) ∨ SqT K H p (ys.map V.str)) ∧ (ys.map (·.length)).sum + ys.length * a.length ≤ 16777216 ∧ Q (.str (PySem.Txt.join a ys)) H
theorem pe_joinK {X : Cx} {K : PySem.W.Frag} {o e : Expr} {to te : TE} {apos pos : Pos} (hK : X.K = K) (ho : PE X o to) (he : PE X e te) (hs : starEach [e] X.env = [(false, eval e X.env)] := by rfl) (hbase : attributeBase o "join" X.env (eval o X.env) = eval o X.env := by rfl) (hline : (apos.endLine == pos.line) = true := by rfl) :
    PE X (.Call (.Attribute o "join" apos) [e] [] pos) (tM1 (rJoinK K) to te) := by
  subst hK
  exact pe_join ho he hs hbase hline
theorem ev_joinL {K : PySem.W.Frag} {σ : L2.St} {H : Hp} {ta te : TE} {a : Str} {ys : List Str} (ha : Ev ta σ H (.str a)) (he : EvL te σ H (ys.map V.str)) (hz : (ys.map (·.length)).sum + ys.length * a.length ≤ 16777216) : Ev (tM1 (rJoinK K) ta te) σ H (.str (PySem.Txt.join a ys)) := fun H1 e Q q =>
  ha H1 e _ fun H2 e2 => ⟨⟨a, rfl⟩, he H2 (e.trans e2) _ fun p H3 hp e3 h3 => ⟨a, p, ys, rfl, rfl, .inl (sq_of h3), hz, q H3 (e2.trans e3)⟩⟩
def rCatS : R2 := fun x y H Q => ∃ i j : Str, x = .str i ∧ y = .str j ∧ i.length + j.length ≤ sizeLine ∧ Q (.str (i ++ j)) H
theorem ev_catS {σ : L2.St} {H : Hp} {ta tb : TE} {i j : Str} (ha : Ev ta σ H (.str i)) (hb : Ev tb σ H (.str j)) (hz : i.length + j.length ≤ 100000) : Ev (tOp rCatS ta tb) σ H (.str (i ++ j)) := fun H1 e Q q =>
  ha H1 e _ fun H2 e2 => hb H2 (e.trans e2) _ fun H3 e3 => ⟨i, j, rfl, rfl, sz_of hz, q H3 (e2.trans e3)⟩
def sp_law_word_of (wd : Str) (a : Addr) : Sp := fun vs H Q _ => vs = [.ref a] ∧ RetV (.str ("refused " ++ wd)) H Q
abbrev s_law_word_of : Stmt := (top 24)
abbrev N_law_word_of : List Str := ["_law_error", "_law_some", "_law_word", "_law_fits"]
theorem sc_law_word_of : FnScope N_law_word_of ["_law_error"] (defScope s_law_word_of) := ⟨rfl, rfl, rfl, by decide +kernel, rfl, by decide +kernel, by decide +kernel⟩

open L2H in
theorem ok_law_word_of (T : Txt K mg) {D : Addr} {b1 b2 b3 b4 b5 b6 : Bool} {wd : Str} (EC : ExcAt K D T.a_PaceError) (KT : KitAt K D [(T.a_BadCount, b1), (T.a_NoMeeting, b2), (T.a_BadDelay, b3), (T.a_Apart, b4), (T.a_NoRing, b5), (T.a_BadPace, b6)]) (ew : wordsOf b1 b2 b3 b4 b5 b6 = [wd]) (hl : wd.length ≤ 100) (hj : PySem.Txt.join " " [wd] = wd) :
    FnE P w K mg base 1 T.a_law_word_of T.d_law_word_of ["_law_error"] (IsExc D) (sp_law_word_of wd) := by
  refine okE T.F_law_word_of sc_law_word_of (fun a vs H Q E h => by rw [h.1]; rfl) (fun cdv A outer s H vs Q E p hG hot HR h => ?_)
  obtain ⟨hz, hf⟩ := hG
  obtain ⟨rfl, q⟩ := h
  refine ⟨_, (pss_cons (ps_if (pt_not (pt_val (pe_callB (call_isP (a := p.1) (oe := p.2) EC.c hz hf (by exact List.mem_singleton_self p)) (by rfl) T.n_isinstance (by decide +kernel) (pa_cons (pv 0) (pa_cons (pe_bltn (v := .ty "ValueError") (by rfl) T.n_ValueError (by decide +kernel) rfl) pa_nil)))))
  (pss_one (ps_ret pe_str)) pss_nil)
  (pss_cons (ps_set (i := 1) sc_law_word_of.nd rfl (by first | exact Or.inl rfl | exact Or.inr rfl) (pe_lst (pa_cons (pe_tup (pa_cons pe_str (pa_cons (pe_callB (call_isP (a := p.1) (oe := p.2) EC.c hz hf (by exact List.mem_singleton_self p)) (by rfl) T.n_isinstance (by decide +kernel) (pa_cons (pv 0) (pa_cons (pe_glob (v := .ref T.a_BadCount) (by rfl) T.g_BadCount rfl) pa_nil))) pa_nil))) (pa_cons (pe_tup (pa_cons pe_str (pa_cons (pe_callB (call_isP (a := p.1) (oe := p.2) EC.c hz hf (by exact List.mem_singleton_self p)) (by rfl) T.n_isinstance (by decide +kernel) (pa_cons (pv 0) (pa_cons (pe_glob (v := .ref T.a_NoMeeting) (by rfl) T.g_NoMeeting rfl) pa_nil))) pa_nil))) pa_nil))))
  (pss_cons (ps_set (i := 1) sc_law_word_of.nd rfl (by first | exact Or.inl rfl | exact Or.inr rfl) (pe_op op_cat (pv 1) (pe_lst (pa_cons (pe_tup (pa_cons pe_str (pa_cons (pe_callB (call_isP (a := p.1) (oe := p.2) EC.c hz hf (by exact List.mem_singleton_self p)) (by rfl) T.n_isinstance (by decide +kernel) (pa_cons (pv 0) (pa_cons (pe_glob (v := .ref T.a_BadDelay) (by rfl) T.g_BadDelay rfl) pa_nil))) pa_nil))) (pa_cons (pe_tup (pa_cons pe_str (pa_cons (pe_callB (call_isP (a := p.1) (oe := p.2) EC.c hz hf (by exact List.mem_singleton_self p)) (by rfl) T.n_isinstance (by decide +kernel) (pa_cons (pv 0) (pa_cons (pe_glob (v := .ref T.a_Apart) (by rfl) T.g_Apart rfl) pa_nil))) pa_nil))) pa_nil)))))
  (pss_cons (ps_set (i := 1) sc_law_word_of.nd rfl (by first | exact Or.inl rfl | exact Or.inr rfl) (pe_op op_cat (pv 1) (pe_lst (pa_cons (pe_tup (pa_cons pe_str (pa_cons (pe_callB (call_isP (a := p.1) (oe := p.2) EC.c hz hf (by exact List.mem_singleton_self p)) (by rfl) T.n_isinstance (by decide +kernel) (pa_cons (pv 0) (pa_cons (pe_glob (v := .ref T.a_NoRing) (by rfl) T.g_NoRing rfl) pa_nil))) pa_nil))) (pa_cons (pe_tup (pa_cons pe_str (pa_cons (pe_callB (call_isP (a := p.1) (oe := p.2) EC.c hz hf (by exact List.mem_singleton_self p)) (by rfl) T.n_isinstance (by decide +kernel) (pa_cons (pv 0) (pa_cons (pe_glob (v := .ref T.a_BadPace) (by rfl) T.g_BadPace rfl) pa_nil))) pa_nil))) pa_nil)))))
  (pss_one (ps_ret (pe_op op_add_str pe_str (pe_joinK (K := K) rfl pe_str (pe_lcH (g := (gTup K 2 (gCons (gName 2) (gCons (gName 3) gNil)))) (tt := (tB (tVar 3))) (te := (tVar 2)) (own := [("_law_word", 2), ("_law_fits", 3)]) hot sc_law_word_of.nd (pi_listH (pv 1)) (blkOk_by (own := [("_law_word", 2), ("_law_fits", 3)]) (N := N_law_word_of) (sc := defScope s_law_word_of) (by decide +kernel)) (fun _ _ _ _ _ => (pg_tupH (hot_blk hot) (pgs_cons (pg_name (i := 2) sc_law_word_of.nd rfl (by first | exact Or.inl rfl | exact Or.inr rfl)) (pgs_cons (pg_name (i := 3) sc_law_word_of.nd rfl (by first | exact Or.inl rfl | exact Or.inr rfl)) pgs_nil)))) (fun _ _ _ _ _ => (pts_one (pt_val (pv 3)))) (fun _ _ _ _ _ => (pv 2))))))))))), ?_⟩
  have k1 := KT _ (List.mem_cons_self)
  have k2 := KT _ (List.mem_cons_of_mem _ List.mem_cons_self)
  have k3 := KT _ (List.mem_cons_of_mem _ (List.mem_cons_of_mem _ List.mem_cons_self))
  have k4 := KT _ (List.mem_cons_of_mem _ (List.mem_cons_of_mem _ (List.mem_cons_of_mem _ List.mem_cons_self)))
  have k5 := KT _ (List.mem_cons_of_mem _ (List.mem_cons_of_mem _ (List.mem_cons_of_mem _ (List.mem_cons_of_mem _ List.mem_cons_self))))
  have k6 := KT _ (List.mem_cons_of_mem _ (List.mem_cons_of_mem _ (List.mem_cons_of_mem _ (List.mem_cons_of_mem _ (List.mem_cons_of_mem _ List.mem_cons_self)))))
  have two : ∀ {n m : Str} {c d : Addr} {b b' : Bool} (σ : L2.St) (H1 : Hp), σ[0]? = some (some (.ref p.1)) → PySem.W.kitOne K (.ref D) (.ref c) = some b → PySem.W.kitOne K (.ref D) (.ref d) = some b' →
      EvK (tLst (tCons (tTup (tCons (tC (.str n)) (tCons (tCB (rIsE K D p.1) (tCons (tVar 0) (tCons (tC (.ref c)) tNil))) tNil))) (tCons (tTup (tCons (tC (.str m)) (tCons (tCB (rIsE K D p.1) (tCons (tVar 0) (tCons (tC (.ref d)) tNil))) tNil))) tNil))) σ H1 (RetTw [[.str n, .bl b], [.str m, .bl b']]) := fun σ H1 h0 h1 h2 =>
    ek_two (eu_tup (ea_cons ev_c (ea_cons (ev_isE (ev_var h0) h1) ea_nil)) (by show 2 ≤ 100000; decide)) (eu_tup (ea_cons ev_c (ea_cons (ev_isE (ev_var h0) h2) ea_nil)) (by show 2 ≤ 100000; decide))
  refine q_when (b := false) (et_not (a := true) (et_B (ev_isEt (ev_var rfl) EC.v))) (fun z => by cases z) fun _ H0 e0 => ?_
  refine q_asgK (two _ _ rfl k1 k2) fun D1 H1 u1 e1 h1 t1 => ?_
  refine q_asgK (ek_catT (ek_stand (ev_var rfl) h1 t1) (two _ _ rfl k3 k4) (by show 4 ≤ 100000; decide)) fun D2 H2 u2 e2 h2 t2 => ?_
  refine q_asgK (ek_catT (ek_stand (ev_var rfl) h2 t2) (two _ _ rfl k5 k6) (by show 6 ≤ 100000; decide)) fun D3 H3 u3 e3 h3 t3 => ?_
  have lw := el_words (K := K) (σ := [some (.ref p.1), some (.ref D3), none, none]) (H := H3) (tl := tVar 1) (tt := tB (tVar 3)) (ps := [("count", b1), ("meeting", b2), ("delay", b3), ("apart", b4), ("ring", b5), ("pace", b6)]) (i := 2) (j := 3) (ev_var rfl) h3 t3 (by show 6 ≤ 40000; decide) (by decide) (by show 2 < 4; decide) (fun x y => rfl) (fun n b H4 e4 => et_B (ev_var rfl))
  have ewd : (([("count", b1), ("meeting", b2), ("delay", b3), ("apart", b4), ("ring", b5), ("pace", b6)] : List (Str × Bool)).filter (·.2)).map (fun p => V.str p.1) = [wd].map V.str := by
    rw [← ew]
    unfold wordsOf
    rw [List.map_map]
    rfl
  rw [ewd] at lw
  exact s_ret (ev_catS ev_c (ev_is (ev_joinL (ys := [wd]) ev_c lw (by show wd.length + 0 + 1 * (1 : Nat) ≤ 16777216; omega)) (congrArg V.str hj)) (by
    have : (("refused " : Str)).length = 8 := by decide +kernel
    omega)) fun H4 e4 => q H4 (((e0.trans e1).trans e2).trans (e3.trans e4))
theorem okBadCount_law_word_of (T : Txt K mg) : FnE P w K mg base 1 T.a_law_word_of T.d_law_word_of ["_law_error"] (IsExc T.a_BadCount) (sp_law_word_of "count") := ok_law_word_of T T.X_BadCount T.kit_BadCount (by decide) (by decide +kernel) (by decide +kernel)
theorem okNoMeeting_law_word_of (T : Txt K mg) : FnE P w K mg base 1 T.a_law_word_of T.d_law_word_of ["_law_error"] (IsExc T.a_NoMeeting) (sp_law_word_of "meeting") := ok_law_word_of T T.X_NoMeeting T.kit_NoMeeting (by decide) (by decide +kernel) (by decide +kernel)
theorem okBadDelay_law_word_of (T : Txt K mg) : FnE P w K mg base 1 T.a_law_word_of T.d_law_word_of ["_law_error"] (IsExc T.a_BadDelay) (sp_law_word_of "delay") := ok_law_word_of T T.X_BadDelay T.kit_BadDelay (by decide) (by decide +kernel) (by decide +kernel)
theorem okApart_law_word_of (T : Txt K mg) : FnE P w K mg base 1 T.a_law_word_of T.d_law_word_of ["_law_error"] (IsExc T.a_Apart) (sp_law_word_of "apart") := ok_law_word_of T T.X_Apart T.kit_Apart (by decide) (by decide +kernel) (by decide +kernel)
/-! ### what can be come to, round by round -/
def mStep (M : List Nat) (e : Nat × Nat) : List Nat := if e.1 ∈ M ∧ e.2 ∉ M then M ++ [e.2] else M
def mRound (es : List (Nat × Nat)) (M : List Nat) : List Nat := es.foldl mStep M
def mAll (es : List (Nat × Nat)) : Nat → List Nat
  | 0 => [0]
  | k + 1 => mRound es (mAll es k)
theorem mStep_ok (M : List Nat) (e : Nat × Nat) (h : M.Nodup) : (mStep M e).Nodup ∧ (∃ r, mStep M e = M ++ r) ∧ (e.1 ∈ M → e.2 ∈ mStep M e) := by
  unfold mStep
  by_cases hc : e.1 ∈ M ∧ e.2 ∉ M
  · rw [if_pos hc]
    exact ⟨List.nodup_append.mpr ⟨h, by simp, fun x hx y hy z => hc.2 (by rw [← List.mem_singleton.mp hy, ← z]; exact hx)⟩, ⟨_, rfl⟩, fun _ => List.mem_append_right _ (List.mem_singleton_self _)⟩
  · rw [if_neg hc]
    exact ⟨h, ⟨[], by rw [List.append_nil]⟩, fun h1 => Classical.byContradiction fun h2 => hc ⟨h1, h2⟩⟩
theorem mr_ok : ∀ (es : List (Nat × Nat)) (M : List Nat), M.Nodup → (mRound es M).Nodup ∧ (∃ r, mRound es M = M ++ r) ∧ ∀ e ∈ es, e.1 ∈ M → e.2 ∈ mRound es M
  | [], M, h => ⟨h, ⟨[], by rw [List.append_nil]; rfl⟩, by simp⟩
  | e :: es, M, h => by
    obtain ⟨h1, ⟨r1, h2⟩, h3⟩ := mStep_ok M e h
    obtain ⟨k1, ⟨r2, k2⟩, k3⟩ := mr_ok es (mStep M e) h1
    have er : mRound (e :: es) M = mRound es (mStep M e) := rfl
    rw [er]
    refine ⟨k1, ⟨r1 ++ r2, by rw [k2, h2, List.append_assoc]⟩, fun x hx hm => ?_⟩
    rcases List.mem_cons.mp hx with rfl | hx
    · rw [k2]
      exact List.mem_append_left _ (h3 hm)
    · exact k3 x hx (by rw [h2]; exact List.mem_append_left _ hm)
theorem mr_closed : ∀ (es : List (Nat × Nat)) (M : List Nat), (∀ e ∈ es, e.1 ∈ M → e.2 ∈ M) → mRound es M = M
  | [], M, _ => rfl
  | e :: es, M, h => by
    have e1 : mStep M e = M := if_neg fun z => z.2 (h e List.mem_cons_self z.1)
    show mRound es (mStep M e) = M
    rw [e1]
    exact mr_closed es M fun x hx => h x (List.mem_cons_of_mem _ hx)
theorem mr_reach {E : List (Nat × Nat)} : ∀ (es : List (Nat × Nat)) (M : List Nat), (∀ e ∈ es, e ∈ E) → (∀ m ∈ M, Reach E 0 m) → ∀ m ∈ mRound es M, Reach E 0 m
  | [], _, _, h => h
  | e :: es, M, hs, h => by
    refine mr_reach es (mStep M e) (fun x hx => hs x (List.mem_cons_of_mem _ hx)) fun m hm => ?_
    unfold mStep at hm
    by_cases hc : e.1 ∈ M ∧ e.2 ∉ M
    · rw [if_pos hc] at hm
      rcases List.mem_append.mp hm with z | z
      · exact h m z
      · rw [List.mem_singleton.mp z]
        exact (h _ hc.1).step (hs e List.mem_cons_self)
    · rw [if_neg hc] at hm
      exact h m hm
theorem ma_nd (es : List (Nat × Nat)) : ∀ k, (mAll es k).Nodup
  | 0 => by simp [mAll]
  | k + 1 => (mr_ok es _ (ma_nd es k)).1
theorem ma_reach (es : List (Nat × Nat)) : ∀ k, ∀ m ∈ mAll es k, Reach es 0 m
  | 0 => fun m hm => by rw [List.mem_singleton.mp hm]; exact .refl 0
  | k + 1 => mr_reach es _ (fun _ h => h) (ma_reach es k)
theorem ma_grow (es : List (Nat × Nat)) : ∀ k, k + 1 ≤ (mAll es k).length ∨ ∀ e ∈ es, e.1 ∈ mAll es k → e.2 ∈ mAll es k
  | 0 => .inl (by show 1 ≤ 1; decide)
  | k + 1 => by
    obtain ⟨h1, ⟨r, h2⟩, h3⟩ := mr_ok es (mAll es k) (ma_nd es k)
    have er : mAll es (k + 1) = mRound es (mAll es k) := rfl
    rcases ma_grow es k with h | h
    · cases r with
      | nil =>
        rw [List.append_nil] at h2
        refine .inr fun e he hm => ?_
        rw [er] at hm ⊢
        rw [h2] at hm
        exact h3 e he hm
      | cons x r =>
        left
        rw [er, h2, List.length_append, List.length_cons]
        omega
    · right
      rw [er, mr_closed es _ h]
      exact h
theorem ma_zero (es : List (Nat × Nat)) : ∀ k, 0 ∈ mAll es k
  | 0 => List.mem_singleton_self 0
  | k + 1 => by
    obtain ⟨_, ⟨r, h2⟩, _⟩ := mr_ok es (mAll es k) (ma_nd es k)
    show 0 ∈ mRound es (mAll es k)
    rw [h2]
    exact List.mem_append_left _ (ma_zero es k)
theorem ma_all {n : Nat} {es : List (Nat × Nat)} (hn : 1 ≤ n) (he : ∀ e ∈ es, e.1 < n ∧ e.2 < n) : n ≤ (mAll es n).length ↔ ∀ m, m < n → Reach es 0 m := by
  have lt : ∀ m ∈ mAll es n, m < n := fun m hm => by
    cases ma_reach es n m hm with
    | refl => omega
    | step _ e => exact (he _ e).2
  have hle := nodup_lt (ma_nd es n) lt
  constructor
  · intro h m hm
    refine Classical.byContradiction fun hno => ?_
    have hnot : m ∉ mAll es n := fun z => hno (ma_reach es n m z)
    have := nodup_lt (l := m :: mAll es n) (n := n) (List.nodup_cons.mpr ⟨hnot, ma_nd es n⟩) fun x hx => by
      rcases List.mem_cons.mp hx with z | z
      · rw [z]
        exact hm
      · exact lt x z
    rw [List.length_cons] at this
    omega
  · intro h
    have closed : ∀ e ∈ es, e.1 ∈ mAll es n → e.2 ∈ mAll es n := (ma_grow es n).resolve_left (by omega)
    have all : ∀ m, Reach es 0 m → m ∈ mAll es n := fun m r => by
      induction r with
      | refl => exact ma_zero es n
      | step _ e ih => exact closed _ e ih
    have := List.Nodup.length_le_of_subset (l₁ := List.range n) (l₂ := mAll es n) List.nodup_range (fun m hm => all m (h m (List.mem_range.mp hm)))
    rwa [List.length_range] at this
/-! ### as a dict -/
def mkD (M : List Nat) : List (Key × V) := M.map fun (m : Nat) => ((Sum.inl (m : Int) : Key), V.bl true)
theorem mkD_val : ∀ (M : List Nat) (x : Nat), (valV (mkD M) (.inl (x : Int))).isSome = decide (x ∈ M)
  | [], x => by simp [mkD, valV_nil]
  | m :: M, x => by
    show (valV (((.inl (m : Int) : Key), V.bl true) :: mkD M) (.inl (x : Int))).isSome = _
    by_cases h : m = x
    · rw [valV_pos (by show (.inl (m : Int) : Key) = .inl (x : Int); rw [h])]
      simp [h]
    · rw [valV_neg (by show ¬ (.inl (m : Int) : Key) = .inl (x : Int); intro z; have := Sum.inl.inj z; omega), mkD_val M x]
      simp [Ne.symm h]
theorem mkD_put (M : List Nat) (x : Nat) : putK (mkD M) (.inl (x : Int)) (.bl true) = mkD (if x ∈ M then M else M ++ [x]) := by
  by_cases h : x ∈ M
  · rw [if_pos h]
    have hs : (valV (mkD M) (.inl (x : Int))).isSome = true := by rw [mkD_val]; exact decide_eq_true h
    unfold putK
    rw [if_pos (by rw [valV_any]; exact hs)]
    unfold mkD
    rw [List.map_map]
    refine List.map_congr_left fun m _ => ?_
    show (if _ then _ else _) = _
    split <;> rfl
  · rw [if_neg h]
    have hs : valV (mkD M) (.inl (x : Int)) = none := by
      have := mkD_val M x
      rw [decide_eq_false h] at this
      exact Option.not_isSome_iff_eq_none.mp (by rw [this]; decide)
    rw [putK_new _ hs]
    unfold mkD
    rw [List.map_append]
    rfl
theorem mkD_len (M : List Nat) : (mkD M).length = M.length := List.length_map _
theorem ek_disp1K {σ : L2.St} {H : Hp} {ta tb : TE} {x : Int} {v : V} (hk : Ev ta σ H (.int x)) (hv : Ev tb σ H v) : EvK (tDisp [(ta, tb)]) σ H (RetO (.dK [(.inl x, v)])) := fun H1 e Q q p hp => by
  have e1 : Ex H1 (upd H1 p (.dK [])) := Ex.new hp
  refine hk _ (e.trans e1) _ fun H2 e2 => hv H2 ((e.trans e1).trans e2) _ fun H3 e3 => ?_
  exact ⟨(e2.trans e3) _ _ upd_same, [(.inl x, v)], rfl, by show 1 ≤ 15; decide, q p _ hp (Ex.mut ((e1.trans e2).trans e3) hp) upd_same⟩
theorem s_dputK {σ : L2.St} {H : Hp} {D : Ends} {td ty tv : TE} {d : Addr} {kvs : List (Key × V)} {x : Int} {v : V} (hv : Ev tv σ H v) (hd : Ev td σ H (.ref d)) (hy : Ev ty σ H (.int x)) (e : H d = some (.dK kvs)) (hl : kvs.length < 10000) (q : ∀ H1, Ex H H1 → D.nx σ (upd H1 d (.dK (putK kvs (.inl x) v)))) : sDPut td ty tv D σ H :=
  hv H (Ex.refl H) _ fun H1 e1 => hd H1 e1 _ fun H2 e2 => hy H2 (e1.trans e2) _ fun H3 e3 => by
    have e13 := (e1.trans e2).trans e3
    exact ⟨d, _, rfl, DPut.k (k := .inl x) (e13 _ _ e) (by rw [sizeLine_eq]; omega), q H3 e13⟩
theorem et_dinK {σ : L2.St} {H : Hp} {ty td : TE} {d : Addr} {kvs : List (Key × V)} {x : Int} (hy : Ev ty σ H (.int x)) (hd : Ev td σ H (.ref d)) (e : H d = some (.dK kvs)) : EvT (tB (tDIn ty td)) σ H (valV kvs (.inl x)).isSome := fun H1 e1 Q q =>
  hy H1 e1 _ fun H2 e2 => hd H2 (e1.trans e2) _ fun H3 e3 => ⟨d, valV kvs (.inl x), rfl, DGet.k (k := .inl x) (((e1.trans e2).trans e3) _ _ e), _, rfl, q H3 (e2.trans e3)⟩
def sp_law_met : Sp := fun vs H Q _ => ∃ (n : Nat) (a : Addr) (es : List (Nat × Nat)) (us : List V), vs = [.int (n : Int), .ref a] ∧ H a = some (.lst us) ∧ Tups H us (es.map pairV) ∧ n ≤ 12 ∧ (∀ e ∈ es, e.1 < n ∧ e.2 < n) ∧ 1 ≤ n ∧ RetV (.int ((mAll es n).length : Int)) H Q
abbrev s_law_met : Stmt := (top 22)
abbrev N_law_met : List Str := ["_law_many_here", "_law_pairs", "_law_met_here", "_law_turn", "_law_one", "_law_other"]
theorem sc_law_met : FnScope N_law_met ["_law_many_here", "_law_pairs"] (defScope s_law_met) := ⟨rfl, rfl, rfl, by decide +kernel, rfl, by decide +kernel, by decide +kernel⟩

theorem ok_law_met (T : Txt K mg) : FnOk P w K mg base CX0 1 T.a_law_met T.d_law_met ["_law_many_here", "_law_pairs"] sp_law_met := by
  refine okN T.F_law_met sc_law_met (fun vs H Q E h => ?_) (fun cdv A outer s H vs Q E HR h => ?_)
  · obtain ⟨n, a, es, us, rfl, _⟩ := h
    rfl
  · obtain ⟨n, a, es, us, rfl, ha, hT, n12, hends, n1, q⟩ := h
    have hul : us.length = es.length := hT.1.trans (List.length_map _)
    have small : ∀ M : List Nat, M.Nodup → (∀ m ∈ M, m < n) → M.length ≤ 12 := fun M h1 h2 => by have := nodup_lt h1 h2; omega
    refine ⟨_, (pss_cons (ps_set (i := 2) sc_law_met.nd rfl (by first | exact Or.inl rfl | exact Or.inr rfl) (pe_disp (pps_cons pe_int pe_bl pps_nil) rfl rfl (List.cons_ne_nil _ _) (by show 1 ≤ 15; decide)))
  (pss_cons (ps_for PassesOwn.never rfl (pi_range1 (by rfl) T.n_range (pa_cons (pv 0) pa_nil)) (pg_name (i := 3) sc_law_met.nd rfl (by first | exact Or.inl rfl | exact Or.inr rfl))
  (pss_one (ps_for PassesOwn.never rfl (pi_list (pv 1)) (pg_tup rfl (pgs_cons (pg_name (i := 4) sc_law_met.nd rfl (by first | exact Or.inl rfl | exact Or.inr rfl)) (pgs_cons (pg_name (i := 5) sc_law_met.nd rfl (by first | exact Or.inl rfl | exact Or.inr rfl)) pgs_nil)))
  (pss_one (ps_if (pt_cmp (pc_din (hu_of HR) (pv 4) (pv 2)))
  (pss_one (ps_dput (hu_of HR) (pv 2) (pv 5) pe_bl rfl)) pss_nil)))))
  (pss_one (ps_ret (pe_callB call_lenD (by rfl) T.n_len boot_len (pa_cons (pv 2) pa_nil)))))), ?_⟩
    refine q_asgK (ek_disp1K (x := 0) (v := .bl true) ev_c ev_c) fun d H1 hd e1 h1 => ?_
    refine q_forR1 (n := (n : Int)) (ea_cons (ev_var rfl) ea_nil) ⟨by omega, by omega⟩ (fun i σ' H' => ∃ (r3 r4 r5 : Option V), σ' = [some (.int (n : Int)), some (.ref a), some (.ref d), r3, r4, r5] ∧ H' d = some (.dK (mkD (mAll es i))) ∧ Ex H H') (fun H2 e2 => ⟨none, none, none, rfl, (show H2 d = some (.dK [(Sum.inl 0, .bl true)]) from e2 _ _ h1), e1.trans e2⟩) ?_ ?_
    · rintro i σ' H' hi ⟨r3, r4, r5, rfl, hd', e⟩
      refine s_forL (a := a) (xs := us) (ev_var rfl) (sq_of (e _ _ ha)) (fun j σ' H' => ∃ (r4 r5 : Option V), σ' = [some (.int (n : Int)), some (.ref a), some (.ref d), some (.int (i : Int)), r4, r5] ∧ H' d = some (.dK (mkD ((es.take j).foldl mStep (mAll es i)))) ∧ Ex H H') (fun H2 e2 => ⟨_, _, rfl, e2 _ _ hd', e.trans e2⟩) (fun j σ' H' _ ⟨_, _, _, _, e⟩ => sq_of (e _ _ ha)) ?_ ?_
      · rintro j x σ' H' hx ⟨r4, r5, rfl, hd', e⟩
        obtain ⟨q2, ed, rfl, hed, hmem, hq2⟩ := tups_at (hT.ex e) hx
        have htk : (es.take (j + 1)).foldl mStep (mAll es i) = mStep ((es.take j).foldl mStep (mAll es i)) ed := by
          rw [List.take_add_one, hed, List.foldl_append]
          rfl
        have hMnd := (mr_ok (es.take j) _ (ma_nd es i)).1
        have hMlt : ∀ m ∈ (es.take j).foldl mStep (mAll es i), m < n := fun m hm => by
          have := mr_reach (E := es) (es.take j) (mAll es i) (fun x hx => List.mem_of_mem_take hx) (ma_reach es i) m hm
          cases this with
          | refl => omega
          | step _ e => exact (hends _ e).2
        have hMl : ((es.take j).foldl mStep (mAll es i)).length ≤ 12 := small _ hMnd hMlt
        generalize (es.take j).foldl mStep (mAll es i) = M at hd' htk hMl
        refine g_tup2 (K := K) hq2 ?_
        refine s_when (b := decide (ed.1 ∈ M)) (et_is (et_dinK (ev_var rfl) (ev_var rfl) hd') (mkD_val M ed.1)) (fun hb H2 e2 => ?_) (fun hb H2 e2 => ⟨_, _, rfl, ?_, e.trans e2⟩)
        · have h1 := of_decide_eq_true hb
          refine s_dputK (v := .bl true) ev_c (ev_var rfl) (ev_var rfl) (e2 _ _ hd') (by rw [mkD_len]; omega) fun H3 e3 => ⟨_, _, rfl, ?_, Ex.mut ((e.trans e2).trans e3) hd⟩
          rw [upd_same, mkD_put, htk]
          unfold mStep
          by_cases h2 : ed.2 ∈ M
          · rw [if_pos h2, if_neg fun z => z.2 h2]
          · rw [if_neg h2, if_pos ⟨h1, h2⟩]
        · have h1 := of_decide_eq_false hb
          rw [htk, show mStep M ed = M from if_neg fun z => h1 z.1]
          exact e2 _ _ hd'
      · rintro σ' H' ⟨r4, r5, rfl, hd', e⟩
        rw [hul, List.take_length] at hd'
        exact ⟨_, _, _, rfl, hd', e⟩
    · rintro σ' H' ⟨r3, r4, r5, rfl, hd', e⟩
      rw [Int.toNat_natCast] at hd'
      refine s_ret (v := .int ((mAll es n).length : Int)) (fun H1 e1 Q qq => ?_) fun H2 e2 => q H2 (e.trans e2)
      refine ev_var (σ := [some (.int (n : Int)), some (.ref a), some (.ref d), r3, r4, r5]) (i := 2) (v := .ref d) rfl H1 (Ex.refl _) _ fun H2 e2 => ⟨d, _, rfl, (e1.trans e2) _ _ hd', ?_⟩
      rw [mkD_len]
      exact qq H2 e2
/-! ### what is due -/
theorem tups_pick {α : Type} {F : α → List V} {H : Hp} {vw : List V} {xs : List α} (d : α) (hT : Tups H vw (xs.map F)) (L : List Nat) (hL : ∀ i ∈ L, i < xs.length) : Tups H (L.map fun i => vw.getD i .non) (L.map fun i => F (xs.getD i d)) := ⟨by rw [List.length_map, List.length_map], fun k x hx => by
  rw [List.getElem?_map] at hx ⊢
  obtain ⟨i, hi, rfl⟩ := Option.map_eq_some_iff.mp hx
  have hlt := hL i (List.mem_of_getElem? hi)
  obtain ⟨p, h1, h2⟩ := hT.2 i (F (xs.getD i d)) (by rw [List.getElem?_map, List.getD_eq_getElem?_getD, List.getElem?_eq_getElem hlt]; rfl)
  exact ⟨p, by rw [hi]; show some (vw.getD i .non) = _; rw [getD_of h1], h2⟩⟩
theorem filt_getD {α : Type} (l : List α) (d : α) (f : α → Bool) : ((List.range l.length).filter fun i => f (l.getD i d)).map (fun i => l.getD i d) = l.filter f := by
  have := congrArg (List.filter f) (map_getD l d id)
  rw [List.map_id, List.filter_map] at this
  exact this
theorem tups_given {α : Type} {F : α → List V} {H : Hp} {vw : List V} {xs : List α} (fa : α → Bool) (d : α) (hT : Tups H vw (xs.map F)) : Tups H (given vw.length (fun i => fa (xs.getD i d)) (fun i => vw.getD i .non)) ((xs.filter fa).map F) := by
  have hlen : vw.length = xs.length := hT.1.trans (List.length_map _)
  rw [← filt_getD xs d fa, List.map_map]
  unfold given
  rw [hlen]
  exact tups_pick d hT _ fun i hi => List.mem_range.mp (List.mem_filter.mp hi).1
section
variable {K : PySem.W.Frag} {σ : L2.St} {H : Hp} {ta tb tc tl : TE} {t : TT}
theorem ev_chain {f g : Int → Int → Bool} {i j k : Int} (ha : Ev ta σ H (.int i)) (hb : Ev tb σ H (.int j)) (hc : Ev tc σ H (.int k)) : Ev (tChain (rI0 fun i j => .bl (f i j)) (rI0 fun i j => .bl (g i j)) ta tb tc) σ H (.bl (f i j && g j k)) := fun H1 e Q q =>
  ha H1 e _ fun H2 e2 => hb H2 (e.trans e2) _ fun H3 e3 => ⟨i, j, rfl, rfl, f i j, rfl, by
    cases hz : f i j with
    | false =>
      rw [if_neg (by decide)]
      rw [hz] at q
      exact q H3 (e2.trans e3)
    | true =>
      rw [if_pos rfl]
      rw [hz, Bool.true_and] at q
      exact hc H3 ((e.trans e2).trans e3) _ fun H4 e4 => ⟨j, k, rfl, rfl, q H4 ((e2.trans e3).trans e4)⟩⟩
/-- [way for way in ways if ..] != [] -/
theorem ev_sieve {j : Nat} {a : Addr} {vw : List V} {ws : List IW} {fw : IW → Bool} {vs : List Nat} (hl : Ev tl σ H (.ref a)) (ha : H a = some (.lst vw)) (hT : Tups H vw (ws.map wayI)) (hz : ws.length ≤ 40000) (hw : ∀ x, wipe ((wipe σ vs).set j (some x)) vs = wipe σ vs)
    (hj : ∀ x : V, ((wipe σ vs).set j (some x))[j]? = some (some x)) (ht : ∀ (w : IW) (q : Addr) H1, Ex H H1 → H1 q = some (.tup (wayI w)) → EvT t ((wipe σ vs).set j (some (.ref q))) H1 (fw w)) :
    Ev (tOp (rNeD K) (tLc (iList K tl) (gName j) t (tVar j) vs) (tLst tNil)) σ H (.bl (!(ws.filter fw).isEmpty)) := by
  have hlen : vw.length = ws.length := hT.1.trans (List.length_map _)
  have rr := el_lcL (K := K) (σ := σ) (H := H) (a := a) (xs := vw) (tl := tl) (j := j) (vs := vs) (t := t) (te := tVar j) (fun i => fw (ws.getD i (0, 0, 0))) (fun i => vw.getD i .non) hl (sq_of ha) (by omega) hw
    (fun i x H1 e1 hx => by
      obtain ⟨q, w, rfl, hwi, _, hq⟩ := tups_at (hT.ex e1) hx
      rw [getD_of hwi]
      exact ht w q H1 e1 hq)
    (fun i x H1 e1 hx _ => by
      rw [getD_of hx]
      exact ev_var (hj x))
  refine ev_opLL rr (el_lst ea_nil (by simp)) fun p q H1 hp hq e1 => ?_
  have t1 := tups_given fw (0, 0, 0) (hT.ex e1)
  have r := rv_neD (K := K) (H := H1) (x := .ref p) (y := .ref q) (dp_tl (f := fun w : IW => [w.1, w.2.1, w.2.2]) hp t1) (dp_il (xs := []) hq) (shaped_tups _ _) (shaped_ints _)
  cases hf : ws.filter fw with
  | nil =>
    rw [hf, PyData.eqv, List.map_nil, List.map_nil, PyData.eqvAll] at r
    exact r
  | cons x xs =>
    rw [hf, PyData.eqv, List.map_cons, List.map_nil, PyData.eqvAll] at r
    exact r
end
def wdOf : Ref → Str
  | .count => "count"
  | .meeting => "meeting"
  | .delay => "delay"
  | .apart => "apart"
  | .fine => ""
def sp_law_due : Sp := fun vs H Q _ => ∃ (m : Int) (a : Addr) (ws : List IW) (vw : List V), vs = [.int m, .ref a] ∧ H a = some (.lst vw) ∧ Tups H vw (ws.map wayI) ∧ ws.length ≤ 100 ∧ RetV (.str (wdOf (refOf m ws))) H Q
abbrev s_law_due : Stmt := (top 23)
abbrev N_law_due : List Str := ["_law_many_here", "_law_ways_here", "_law_way"]
theorem sc_law_due : FnScope N_law_due ["_law_many_here", "_law_ways_here"] (defScope s_law_due) := ⟨rfl, rfl, rfl, by decide +kernel, rfl, by decide +kernel, by decide +kernel⟩

theorem ok_law_due (T : Txt K mg) : FnOk P w K mg base CX0 2 T.a_law_due T.d_law_due ["_law_many_here", "_law_ways_here"] sp_law_due := by
  refine okN T.F_law_due sc_law_due (fun vs H Q E h => ?_) (fun cdv A outer s H vs Q E HR h => ?_)
  · obtain ⟨m, a, ws, vw, rfl, _⟩ := h
    rfl
  · obtain ⟨m, a, ws, vw, rfl, ha, hT, hwl, q⟩ := h
    have hvl : vw.length = ws.length := hT.1.trans (List.length_map _)
    refine ⟨_, (pss_cons (ps_if (PW.pt (pw_or (pt_cmpR op_lt (pv 0) pe_int (nomark _)) (pw_or (pt_cmpR op_gt (pv 0) pe_int (nomark _)) (pw_or1 (pt_cmpR op_gt (pe_callB call_len_seq (by rfl) T.n_len boot_len (pa_cons (pv 1) pa_nil)) pe_int (nomark _))))))
  (pss_one (ps_ret pe_str)) pss_nil)
  (pss_cons (ps_if (pt_cmpR (op_neD HR.units) (pe_lc (g := (gName 2)) (tt := (tOr (tNot (tTest (tChain (rI0 fun i j => .bl (decide (i ≤ j))) (rI0 fun i j => .bl (decide (i < j))) (tC (.int 0)) (tOp (rIxT K) (tVar 2) (tC (.int 0))) (tVar 0)))) (tNot (tTest (tChain (rI0 fun i j => .bl (decide (i ≤ j))) (rI0 fun i j => .bl (decide (i < j))) (tC (.int 0)) (tOp (rIxT K) (tVar 2) (tC (.int 1))) (tVar 0)))))) (te := (tVar 2)) (own := [("_law_way", 2)]) rfl sc_law_due.nd (pi_list (pv 1)) (blkOk_by (own := [("_law_way", 2)]) (N := N_law_due) (sc := defScope s_law_due) (by decide +kernel)) (fun _ _ _ _ _ => (pg_name (i := 2) sc_law_due.nd rfl (by first | exact Or.inl rfl | exact Or.inr rfl))) (fun _ _ _ _ _ => (pts_one (PW.pt (pw_or (pt_not (pt_chain op_le op_lt pe_int (pe_ix ix_tup (pv 2) pe_int (fun _ _ => rfl)) (pv 0))) (pw_or1 (pt_not (pt_chain op_le op_lt pe_int (pe_ix ix_tup (pv 2) pe_int (fun _ _ => rfl)) (pv 0)))))))) (fun _ _ _ _ _ => (pv 2))) (pe_lst pa_nil) (nomark _))
  (pss_one (ps_ret pe_str)) pss_nil)
  (pss_cons (ps_if (pt_cmpR (op_neD HR.units) (pe_lc (g := (gName 2)) (tt := (tNot (tTest (tChain (rI0 fun i j => .bl (decide (i ≤ j))) (rI0 fun i j => .bl (decide (i ≤ j))) (tC (.int 0)) (tOp (rIxT K) (tVar 2) (tC (.int 2))) (tC (.int 9999)))))) (te := (tVar 2)) (own := [("_law_way", 2)]) rfl sc_law_due.nd (pi_list (pv 1)) (blkOk_by (own := [("_law_way", 2)]) (N := N_law_due) (sc := defScope s_law_due) (by decide +kernel)) (fun _ _ _ _ _ => (pg_name (i := 2) sc_law_due.nd rfl (by first | exact Or.inl rfl | exact Or.inr rfl))) (fun _ _ _ _ _ => (pts_one (pt_not (pt_chain op_le op_le pe_int (pe_ix ix_tup (pv 2) pe_int (fun _ _ => rfl)) pe_int)))) (fun _ _ _ _ _ => (pv 2))) (pe_lst pa_nil) (nomark _))
  (pss_one (ps_ret pe_str)) pss_nil)
  (pss_cons (ps_if (PW.pt (pw_or (pt_cmpR (op_eqD HR.units) (pv 1) (pe_lst pa_nil) (nomark _)) (pw_or1 (pt_cmpR op_lt (pe_call (ok_law_met T) (HR.mono (by decide)) (by rfl) T.g_law_met T.F_law_met.kp T.b_law_met .nil pass0 (pa_cons (pv 0) (pa_cons (pe_lc (g := (gName 2)) (tt := tYes) (te := (tTup (tCons (tOp (rIxT K) (tVar 2) (tC (.int 0))) (tCons (tOp (rIxT K) (tVar 2) (tC (.int 1))) tNil)))) (own := [("_law_way", 2)]) rfl sc_law_due.nd (pi_list (pv 1)) (blkOk_by (own := [("_law_way", 2)]) (N := N_law_due) (sc := defScope s_law_due) (by decide +kernel)) (fun _ _ _ _ _ => (pg_name (i := 2) sc_law_due.nd rfl (by first | exact Or.inl rfl | exact Or.inr rfl))) (fun _ _ _ _ _ => pts_nil) (fun _ _ _ _ _ => (pe_tup (pa_cons (pe_ix ix_tup (pv 2) pe_int (fun _ _ => rfl)) (pa_cons (pe_ix ix_tup (pv 2) pe_int (fun _ _ => rfl)) pa_nil))))) pa_nil))) (pv 0) (nomark _)))))
  (pss_one (ps_ret pe_str)) pss_nil)
  (pss_cons (ps_if (pt_cmpR op_lt (pe_call (ok_law_met T) (HR.mono (by decide)) (by rfl) T.g_law_met T.F_law_met.kp T.b_law_met .nil pass0 (pa_cons (pv 0) (pa_cons (pe_lc (g := (gName 2)) (tt := tYes) (te := (tTup (tCons (tOp (rIxT K) (tVar 2) (tC (.int 1))) (tCons (tOp (rIxT K) (tVar 2) (tC (.int 0))) tNil)))) (own := [("_law_way", 2)]) rfl sc_law_due.nd (pi_list (pv 1)) (blkOk_by (own := [("_law_way", 2)]) (N := N_law_due) (sc := defScope s_law_due) (by decide +kernel)) (fun _ _ _ _ _ => (pg_name (i := 2) sc_law_due.nd rfl (by first | exact Or.inl rfl | exact Or.inr rfl))) (fun _ _ _ _ _ => pts_nil) (fun _ _ _ _ _ => (pe_tup (pa_cons (pe_ix ix_tup (pv 2) pe_int (fun _ _ => rfl)) (pa_cons (pe_ix ix_tup (pv 2) pe_int (fun _ _ => rfl)) pa_nil))))) pa_nil))) (pv 0) (nomark _))
  (pss_one (ps_ret pe_str)) pss_nil)
  (pss_one (ps_ret pe_str))))))), ?_⟩
    have tst : EvT (tOr (tTest (tOp (rI0 fun i j => V.bl (decide (i < j))) (tVar 0) (tC (.int 1)))) (tOr (tTest (tOp (rI0 fun i j => V.bl (decide (j < i))) (tVar 0) (tC (.int 12)))) (tTest (tOp (rI0 fun i j => V.bl (decide (j < i))) (tCB (rLenS K) (tCons (tVar 1) tNil)) (tC (.int 60)))))) [some (.int m), some (.ref a), none] H (decide (m < 1) || (decide (12 < m) || decide ((60 : Int) < (ws.length : Int)))) :=
      et_or (a := decide (m < 1)) (et_test (ev_op (ev_var rfl) ev_c rv_I0)) fun _ => et_or (a := decide (12 < m)) (et_test (ev_op (ev_var rfl) ev_c rv_I0)) fun _ => et_test (ev_op (ev_is (ev_len (ev_var rfl) (sq_of ha)) (by rw [hvl])) ev_c rv_I0)
    by_cases hc : BadC m ws
    · rw [ref_count hc] at q
      refine q_when (b := true) (et_is tst ?_) (fun _ H1 e1 => s_ret ev_c fun H2 e2 => q H2 (e1.trans e2)) (fun z => by cases z)
      unfold BadC at hc
      rcases hc with z | z | z
      · rw [decide_eq_true z]
        rfl
      · rw [decide_eq_true z]
        simp
      · rw [decide_eq_true (show (60 : Int) < (ws.length : Int) by omega)]
        simp
    obtain ⟨n, rfl⟩ : ∃ n : Nat, m = (n : Int) := ⟨m.toNat, by unfold BadC at hc; omega⟩
    have hc2 := hc
    unfold BadC at hc2
    have hn1 : 1 ≤ n := by omega
    have hn12 : n ≤ 12 := by omega
    have hl60 : ws.length ≤ 60 := by omega
    refine q_when (b := false) (et_is tst (by rw [decide_eq_false (by omega), decide_eq_false (by omega), decide_eq_false (by omega)]; rfl)) (fun z => by cases z) fun _ H1 e1 => ?_
    have tM := ev_sieve (K := K) (σ := [some (.int (n : Int)), some (.ref a), none]) (H := H1) (tl := tVar 1) (j := 2) (vs := [2]) (t := tOr (tNot (tTest (tChain (rI0 fun i j => .bl (decide (i ≤ j))) (rI0 fun i j => .bl (decide (i < j))) (tC (.int 0)) (tOp (rIxT K) (tVar 2) (tC (.int 0))) (tVar 0)))) (tNot (tTest (tChain (rI0 fun i j => .bl (decide (i ≤ j))) (rI0 fun i j => .bl (decide (i < j))) (tC (.int 0)) (tOp (rIxT K) (tVar 2) (tC (.int 1))) (tVar 0)))))
      (fw := fun w => !(decide (0 ≤ w.1) && decide (w.1 < (n : Int))) || !(decide (0 ≤ w.2.1) && decide (w.2.1 < (n : Int)))) (ev_var rfl) (e1 _ _ ha) (hT.ex e1) (by omega) (fun x => rfl) (fun x => rfl)
      (fun w q H2 e2 hq => et_or (a := !(decide (0 ≤ w.1) && decide (w.1 < (n : Int)))) (et_not (et_test (ev_chain ev_c (ev_op (ev_var rfl) ev_c (rv_ixT (st_of hq) rfl)) (ev_var rfl)))) fun _ => et_not (et_test (ev_chain ev_c (ev_op (ev_var rfl) ev_c (rv_ixT (st_of hq) rfl)) (ev_var rfl))))
    have hM : (∃ w ∈ ws, BadW n w) ↔ ¬ (ws.filter fun w => !(decide (0 ≤ w.1) && decide (w.1 < (n : Int))) || !(decide (0 ≤ w.2.1) && decide (w.2.1 < (n : Int)))) = [] := by
      rw [List.filter_eq_nil_iff]
      constructor
      · rintro ⟨w, hw, hb⟩ hz
        have := hz w hw
        simp only [Bool.or_eq_true, Bool.not_eq_true', Bool.and_eq_false_iff, decide_eq_false_iff_not] at this
        unfold BadW BadM at hb
        omega
      · intro hz
        refine Classical.byContradiction fun hno => hz fun w hw hb => hno ⟨w, hw, ?_⟩
        simp only [Bool.or_eq_true, Bool.not_eq_true', Bool.and_eq_false_iff, decide_eq_false_iff_not] at hb
        unfold BadW BadM
        omega
    by_cases hex : ∃ w ∈ ws, BadW n w
    · rw [ref_meeting hc hex] at q
      exact q_when (b := true) (et_is (et_test tM) (by rw [List.isEmpty_eq_false_iff.mpr (hM.mp hex)]; rfl)) (fun _ H2 e2 => s_ret ev_c fun H3 e3 => q H3 ((e1.trans e2).trans e3)) (fun z => by cases z)
    refine q_when (b := false) (et_is (et_test tM) (by rw [List.isEmpty_iff.mpr (Classical.not_not.mp fun z => hex (hM.mpr z))]; rfl)) (fun z => by cases z) fun _ H2 e2 => ?_
    have e02 := e1.trans e2
    have tD := ev_sieve (K := K) (σ := [some (.int (n : Int)), some (.ref a), none]) (H := H2) (tl := tVar 1) (j := 2) (vs := [2]) (t := tNot (tTest (tChain (rI0 fun i j => .bl (decide (i ≤ j))) (rI0 fun i j => .bl (decide (i ≤ j))) (tC (.int 0)) (tOp (rIxT K) (tVar 2) (tC (.int 2))) (tC (.int 9999)))))
      (fw := fun w => !(decide (0 ≤ w.2.2) && decide (w.2.2 ≤ 9999))) (ev_var rfl) (e02 _ _ ha) (hT.ex e02) (by omega) (fun x => rfl) (fun x => rfl)
      (fun w q H3 e3 hq => et_not (et_test (ev_chain ev_c (ev_op (ev_var rfl) ev_c (rv_ixT (st_of hq) rfl)) ev_c)))
    have hD : (∃ w ∈ ws, BadD w) ↔ ¬ (ws.filter fun w => !(decide (0 ≤ w.2.2) && decide (w.2.2 ≤ 9999))) = [] := by
      rw [List.filter_eq_nil_iff]
      constructor
      · rintro ⟨w, hw, hb⟩ hz
        have := hz w hw
        simp only [Bool.not_eq_true', Bool.and_eq_false_iff, decide_eq_false_iff_not] at this
        unfold BadD at hb
        omega
      · intro hz
        refine Classical.byContradiction fun hno => hz fun w hw hb => hno ⟨w, hw, ?_⟩
        simp only [Bool.not_eq_true', Bool.and_eq_false_iff, decide_eq_false_iff_not] at hb
        unfold BadD
        omega
    by_cases hex2 : ∃ w ∈ ws, BadD w
    · rw [ref_delay hc hex hex2] at q
      exact q_when (b := true) (et_is (et_test tD) (by rw [List.isEmpty_eq_false_iff.mpr (hD.mp hex2)]; rfl)) (fun _ H3 e3 => s_ret ev_c fun H4 e4 => q H4 ((e02.trans e3).trans e4)) (fun z => by cases z)
    refine q_when (b := false) (et_is (et_test tD) (by rw [List.isEmpty_iff.mpr (Classical.not_not.mp fun z => hex2 (hD.mpr z))]; rfl)) (fun z => by cases z) fun _ H3 e3 => ?_
    have e03 := e02.trans e3
    have hends : ∀ w ∈ ws.map natW, w.1 < n ∧ w.2.1 < n := fun w hw => by
      obtain ⟨v, hv, rfl⟩ := List.mem_map.mp hw
      have k1 : ¬ BadW n v := fun z => hex ⟨v, hv, z⟩
      unfold BadW BadM at k1
      show v.1.toNat < n ∧ v.2.1.toNat < n
      omega
    have hdel : ∀ w ∈ ws.map natW, w.2.2 ≤ 9999 := fun w hw => by
      obtain ⟨v, hv, rfl⟩ := List.mem_map.mp hw
      have k2 : ¬ BadD v := fun z => hex2 ⟨v, hv, z⟩
      unfold BadD at k2
      show v.2.2.toNat ≤ 9999
      omega
    have hnl : (ws.map natW).length ≤ 60 := by rw [List.length_map]; exact hl60
    have hempty : ws.isEmpty = (ws.map natW).isEmpty := by cases ws <;> rfl
    have qf : WebOk n (ws.map natW) → RetV (.str "") H Q := fun z => by rw [ref_fine hc hex hex2 z] at q; exact q
    have qa : ¬ WebOk n (ws.map natW) → RetV (.str "apart") H Q := fun z => by rw [ref_apart hc hex hex2 z] at q; exact q
    have tE := ev_tupsEq0 (K := K) (σ := [some (.int (n : Int)), some (.ref a), none]) (H := H3) (ta := tVar 1) (f := fun w : IW => [w.1, w.2.1, w.2.2]) (ev_var rfl) (e03 _ _ ha) (hT.ex e03)
    rw [hempty] at tE
    rw [nat_ways hex hex2] at hT
    clear hM hD tM tD tst q
    generalize ws.map natW = nws at hT hends hdel hnl tE qf qa
    have ee : ∀ e ∈ edges nws, e.1 < n ∧ e.2 < n := fun e he => by obtain ⟨w, hw2, rfl⟩ := List.mem_map.mp he; exact hends w hw2
    have er : ∀ e ∈ redges nws, e.1 < n ∧ e.2 < n := fun e he => by obtain ⟨w, hw2, rfl⟩ := List.mem_map.mp he; exact ⟨(hends w hw2).2, (hends w hw2).1⟩
    have callM : ∀ (i j : Int) (f : Way → Nat × Nat) (H4 : Hp), Ex H H4 → (∀ e ∈ nws.map f, e.1 < n ∧ e.2 < n) → (∀ w, atI (wayV w) i = some (.int ((f w).1 : Int))) → (∀ w, atI (wayV w) j = some (.int ((f w).2 : Int))) →
        Ev (tCall sp_law_met [] E0 (tCons (tVar 0) (tCons (tLc (iList K (tVar 1)) (gName 2) tYes (tTup (tCons (tOp (rIxT K) (tVar 2) (tC (.int i))) (tCons (tOp (rIxT K) (tVar 2) (tC (.int j))) tNil))) [2]) tNil))) [some (.int (n : Int)), some (.ref a), none] H4 (.int ((mAll (nws.map f) n).length : Int)) := fun i j f H4 e4 he hi hj =>
      ek_callT (x := .int (n : Int)) (xss := nws.map fun w => pairV (f w)) mo_v (ev_var rfl) (ek_weak (ek_lcT (g := fun w => pairV (f w)) (0, 0, 0) (es_of (ev_var rfl) (sq_of (e4 _ _ ha))) (hT.ex e4) (by omega) (fun x => rfl) fun w q H5 e5 _ hq =>
        eu_tup (ea_cons (ev_op (ev_var rfl) ev_c (rv_ixT (st_of hq) (hi w))) (ea_cons (ev_op (ev_var rfl) ev_c (rv_ixT (st_of hq) (hj w))) ea_nil)) (by show 2 ≤ 100000; decide))) fun D us H5 e5 hD5 hT5 Q E k => ⟨n, D, nws.map f, us, rfl, hD5, by rw [List.map_map]; exact hT5, hn12, he, hn1, k⟩
    have c1 := fun H4 e4 => callM 0 1 (fun w => (w.1, w.2.1)) H4 e4 ee (fun w => rfl) (fun w => rfl)
    have c2 := fun H4 e4 => callM 1 0 (fun w => (w.2.1, w.1)) H4 e4 er (fun w => rfl) (fun w => rfl)
    refine q_when (b := nws.isEmpty || decide (((mAll (edges nws) n).length : Int) < (n : Int))) (et_or (a := nws.isEmpty) (et_test tE) fun _ => et_test (ev_op (c1 H3 e03) (ev_var rfl) rv_I0)) (fun hb H4 e4 => s_ret ev_c fun H5 e5 => qa (fun z => ?_) H5 ((e03.trans e4).trans e5)) fun hb H4 e4 => ?_
    · rcases Bool.or_eq_true_iff.mp hb with y | y
      · exact z.ne (List.isEmpty_iff.mp y)
      · have := (ma_all hn1 ee).mpr z.fwd
        have y2 := of_decide_eq_true y
        omega
    obtain ⟨b1, b2⟩ := Bool.or_eq_false_iff.mp hb
    have b2' := of_decide_eq_false b2
    refine q_when (b := decide (((mAll (redges nws) n).length : Int) < (n : Int))) (et_test (ev_op (c2 H4 (e03.trans e4)) (ev_var rfl) rv_I0)) (fun hb H5 e5 => s_ret ev_c fun H6 e6 => qa (fun z => ?_) H6 (((e03.trans e4).trans e5).trans e6)) fun hb H5 e5 => s_ret ev_c fun H6 e6 => qf ?_ H6 (((e03.trans e4).trans e5).trans e6)
    · have := (ma_all hn1 er).mpr z.bwd
      have y2 := of_decide_eq_true hb
      omega
    · have y2 := of_decide_eq_false hb
      exact ⟨hn1, hn12, hnl, hends, hdel, fun z => (by rw [z] at b1; cases b1), (ma_all hn1 ee).mp (by omega), (ma_all hn1 er).mp (by omega)⟩
/-! ### ways bent -/
theorem reps_flat (v : V) : ∀ n, (List.replicate n [v]).flatten = List.replicate n v
  | 0 => rfl
  | n + 1 => by
    rw [List.replicate_succ, List.flatten_cons, reps_flat v n, List.replicate_succ]
    rfl
section
variable {K : PySem.W.Frag} {σ : L2.St} {H : Hp} {ta tb te : TE}
theorem q_asg3 {D : Ends} {tz : TS} {i j k : Nat} {p : Addr} {a b c : V} (h : Ev te σ H (.ref p)) (hp : H p = some (.tup [a, b, c])) (q : ∀ H1, Ex H H1 → tz D (((σ.set i (some a)).set j (some b)).set k (some c)) H1) : tSeq (tAsg te (gTup K 3 (gCons (gName i) (gCons (gName j) (gCons (gName k) gNil))))) tz D σ H :=
  h H (Ex.refl H) _ fun H1 e => g_tup3 (e _ _ hp) (q H1 e)
theorem ek_oneT {x : List V} (ha : EvU ta σ H x) : EvK (tLst (tCons ta tNil)) σ H (RetTw [x]) := fun H1 e Q q =>
  ha H1 e _ fun p H2 hp e2 h2 => ⟨by show 1 ≤ sizeLine; exact sz_of (by decide), fun l hl => q l _ _ (e2.trans (Ex.new hl)) upd_same ⟨rfl, fun i z hz => by
    match i, hz with
    | 0, hz => exact ⟨p, rfl, by rw [upd_ne fun z => by rw [z, hl] at h2; cases h2]; cases hz; exact h2⟩⟩⟩
theorem ek_takeT {a : Addr} {us : List V} {xss : List (List V)} {t : Nat} (h : Ev ta σ H (.ref a)) (hb : Ev tb σ H (.int (t : Int))) (ha : H a = some (.lst us)) (hT : Tups H us xss) : EvK (tSl (rSlL K) ta tNoPart (tPart tb)) σ H (RetTw (xss.take t)) := fun H1 e Q q =>
  el_sl (K := K) h eo_none (eo_some hb) (sq_of ha) H1 e Q fun p H2 _ e2 h2 => q p H2 _ e2 h2 (by rw [cutV_take]; exact (hT.ex (e.trans e2)).take t)
theorem ek_dropT {a : Addr} {us : List V} {xss : List (List V)} {t : Nat} (h : Ev ta σ H (.ref a)) (hb : Ev tb σ H (.int (t : Int))) (ha : H a = some (.lst us)) (hT : Tups H us xss) : EvK (tSl (rSlL K) ta (tPart tb) tNoPart) σ H (RetTw (xss.drop t)) := fun H1 e Q q =>
  el_sl (K := K) h (eo_some hb) eo_none (sq_of ha) H1 e Q fun p H2 _ e2 h2 => q p H2 _ e2 h2 (by rw [cutV_drop]; exact (hT.ex (e.trans e2)).drop t)
theorem ek_repT {n : Nat} {qa : Addr} {x : List V} (ha : Ev ta σ H (.ref qa)) (hq : H qa = some (.tup x)) (hb : Ev tb σ H (.int (n : Int))) (hn : n ≤ 1000) : EvK (tOp rRep (tLst (tCons ta tNil)) tb) σ H (RetTw (List.replicate n x)) := fun H1 e Q q =>
  (el_lst (ea_cons ha ea_nil) (by show 1 ≤ 100000; decide)) H1 e (fun x H2 => tb σ H2 fun y H3 => rRep x y H3 Q) fun p H2 hp e2 h2 => hb H2 (e.trans e2) _ fun H3 e3 => by
    refine ⟨p, (n : Int), [.ref qa], rfl, rfl, e3 _ _ h2, by omega, by omega, by rw [Int.toNat_natCast]; show 1 * n ≤ sizeLine; rw [sizeLine_eq]; omega, fun p2 hp2 => q p2 _ (List.replicate n (.ref qa)) ((e2.trans e3).trans (Ex.new hp2)) ?_ ?_⟩
    · rw [upd_same, Int.toNat_natCast, reps_flat]
    · refine ⟨by rw [List.length_replicate, List.length_replicate], fun i y hy => ?_⟩
      have hi := (List.getElem?_eq_some_iff.mp hy).1
      rw [List.length_replicate] at hi
      rw [List.getElem?_replicate, if_pos hi] at hy ⊢
      cases hy
      exact ⟨qa, rfl, Ex.new hp2 _ _ ((e.trans (e2.trans e3)) _ _ hq)⟩
end
theorem at6 {x : Int} : ∃ s : Nat, 55 ≤ s ∧ s ≤ 66 ∧ atI [V.int 60, V.int 61, V.int 60, V.int 55, V.int 59, V.int 66] (x % 6) = some (V.int (s : Int)) := by
  have h0 := Int.emod_nonneg x (by decide : (6 : Int) ≠ 0)
  have h2 := Int.emod_lt_of_pos x (by decide : (0 : Int) < 6)
  by_cases e0 : x % 6 = 0
  · rw [e0]
    exact ⟨60, by decide, by decide, rfl⟩
  by_cases e1 : x % 6 = 1
  · rw [e1]
    exact ⟨61, by decide, by decide, rfl⟩
  by_cases e2 : x % 6 = 2
  · rw [e2]
    exact ⟨60, by decide, by decide, rfl⟩
  by_cases e3 : x % 6 = 3
  · rw [e3]
    exact ⟨55, by decide, by decide, rfl⟩
  by_cases e4 : x % 6 = 4
  · rw [e4]
    exact ⟨59, by decide, by decide, rfl⟩
  rw [show x % 6 = 5 by omega]
  exact ⟨66, by decide, by decide, rfl⟩
theorem at4i {x : Int} (a b c d : Int) : ∃ y : Int, atI [V.int a, V.int b, V.int c, V.int d] (x % 4) = some (V.int y) := by
  obtain ⟨v, hv, hat⟩ := at4 (x := x) (.int a) (.int b) (.int c) (.int d)
  rcases hv with rfl | rfl | rfl | rfl
  · exact ⟨a, hat⟩
  · exact ⟨b, hat⟩
  · exact ⟨c, hat⟩
  · exact ⟨d, hat⟩
def RetBent (H : Hp) (Q : VK) : Prop := ∀ ws : List IW, ws.length ≤ 70 → RetTw (ws.map wayI) H Q
def sp_law_bent (K : PySem.W.Frag) : Sp := fun vs H Q _ => ∃ (a b : Addr) (ns : List Int) (n : Nat) (ws : List IW) (vw : List V), vs = [.ref a, .ref b, .int (n : Int)] ∧ SqL K H a (ns.map V.int) ∧ H b = some (.lst vw) ∧ Tups H vw (ws.map wayI) ∧ 1 ≤ ws.length ∧ ws.length ≤ 40 ∧ RetBent H Q
abbrev s_law_bent : Stmt := (top 21)
abbrev N_law_bent : List Str := ["_law_script", "_law_ways_here", "_law_many_here", "_law_made", "_law_far", "_law_k", "_law_at", "_law_one", "_law_other", "_law_delay", "_law_number", "_law_size"]
theorem sc_law_bent : FnScope N_law_bent ["_law_script", "_law_ways_here", "_law_many_here"] (defScope s_law_bent) := ⟨rfl, rfl, rfl, by decide +kernel, rfl, by decide +kernel, by decide +kernel⟩

theorem ok_law_bent (T : Txt K mg) : FnOk P w K mg base CX0 2 T.a_law_bent T.d_law_bent ["_law_script", "_law_ways_here", "_law_many_here"] (sp_law_bent K) := by
  refine okN T.F_law_bent sc_law_bent (fun vs H Q E h => ?_) (fun cdv A outer s H vs Q E HR h => ?_)
  · obtain ⟨a, b, ns, n, ws, vw, rfl, _⟩ := h
    rfl
  · obtain ⟨a, b, ns, n, ws0, vw, rfl, hS, hb, hT0, w01, w040, q⟩ := h
    have cc : ∀ (σ : L2.St) (H1 : Hp) (t : TE) (k : Nat), Ex H H1 → σ[0]? = some (some (.ref a)) → Ev t σ H1 (.int (k : Int)) → Ev (tCall (sp_law_cell_at K) [] E0 (tCons (tVar 0) (tCons t tNil))) σ H1 (.int (cell ns (k : Int))) := fun σ H1 t k e hσ ht =>
      ev_callV (ea_cons (ev_var hσ) (ea_cons ht ea_nil)) fun H2 e2 Q E q => ⟨a, ns, k, rfl, ex_l (e.trans e2) hS, by omega, q⟩
    have cmix : ∀ (σ : L2.St) (H1 : Hp) (t1 t2 : TE) (c : Int) (k : Nat), Ev t1 σ H1 (.int c) → Ev t2 σ H1 (.int (k : Int)) → Ev (tCall sp_law_mixed [] E0 (tCons t1 (tCons t2 tNil))) σ H1 (.int (mixN c k : Int)) := fun σ H1 t1 t2 c k h1 h2 =>
      ev_callV (ea_cons h1 (ea_cons h2 ea_nil)) fun H2 e2 Q E q => ⟨c, k, rfl, q⟩
    have p3 : (0 : Int) < 3 := by decide
    have p4 : (0 : Int) < 4 := by decide
    have p6 : (0 : Int) < 6 := by decide
    have d4 : ∀ x : Int, CDiv x 4 := fun x => ⟨by decide, by decide⟩
    have d6 : ∀ x : Int, CDiv x 6 := fun x => ⟨by decide, by decide⟩
    have pw20 : CPow 10 20 := ⟨by decide, by decide, by decide⟩
    have p20 : (0 : Int) < 10 ^ 20 := by decide
    refine ⟨_, (pss_cons (ps_set (i := 3) sc_law_bent.nd rfl (by first | exact Or.inl rfl | exact Or.inr rfl) (pe_callTy call_list_of (by rfl) T.n_list (by decide +kernel) (pa_cons (pv 1) pa_nil)))
  (pss_cons (ps_set (i := 4) sc_law_bent.nd rfl (by first | exact Or.inl rfl | exact Or.inr rfl) (pe_op op_mod (pe_call (ok_law_cell_at T) (HR.mono (by decide)) (by rfl) T.g_law_cell_at T.F_law_cell_at.kp T.b_law_cell_at .nil pass0 (pa_cons (pv 0) (pa_cons pe_int pa_nil))) (pe_op op_pow pe_int pe_int)))
  (pss_cons (ps_for PassesOwn.never rfl (pi_range1 (by rfl) T.n_range (pa_cons (pe_op op_mod (pe_call (ok_law_cell_at T) (HR.mono (by decide)) (by rfl) T.g_law_cell_at T.F_law_cell_at.kp T.b_law_cell_at .nil pass0 (pa_cons (pv 0) (pa_cons pe_int pa_nil))) pe_int) pa_nil)) (pg_name (i := 5) sc_law_bent.nd rfl (by first | exact Or.inl rfl | exact Or.inr rfl))
  (pss_cons (ps_set (i := 6) sc_law_bent.nd rfl (by first | exact Or.inl rfl | exact Or.inr rfl) (pe_op op_mod (pe_call (ok_law_cell_at T) (HR.mono (by decide)) (by rfl) T.g_law_cell_at T.F_law_cell_at.kp T.b_law_cell_at .nil pass0 (pa_cons (pv 0) (pa_cons (pe_op op_add pe_int (pv 5)) pa_nil))) (pe_callB call_len_seq (by rfl) T.n_len boot_len (pa_cons (pv 3) pa_nil))))
  (pss_cons (ps_asg (pe_ix ix_list (pv 3) (pv 6) (fun _ _ => rfl)) (pg_tup rfl (pgs_cons (pg_name (i := 7) sc_law_bent.nd rfl (by first | exact Or.inl rfl | exact Or.inr rfl)) (pgs_cons (pg_name (i := 8) sc_law_bent.nd rfl (by first | exact Or.inl rfl | exact Or.inr rfl)) (pgs_cons (pg_name (i := 9) sc_law_bent.nd rfl (by first | exact Or.inl rfl | exact Or.inr rfl)) pgs_nil)))))
  (pss_cons (ps_set (i := 10) sc_law_bent.nd rfl (by first | exact Or.inl rfl | exact Or.inr rfl) (pe_call (ok_law_mixed T) (HR.mono (by decide)) (by rfl) T.g_law_mixed T.F_law_mixed.kp T.b_law_mixed .nil pass0 (pa_cons (pe_call (ok_law_cell_at T) (HR.mono (by decide)) (by rfl) T.g_law_cell_at T.F_law_cell_at.kp T.b_law_cell_at .nil pass0 (pa_cons (pv 0) (pa_cons (pe_op op_add pe_int (pv 5)) pa_nil))) (pa_cons (pv 5) pa_nil))))
  (Evl.pss_cut (ps_if (pt_cmpR op_eq (pe_op op_mod (pv 10) pe_int) pe_int (nomark _))
  (pss_one (ps_set (i := 7) sc_law_bent.nd rfl (by first | exact Or.inl rfl | exact Or.inr rfl) (pe_ix ix_list (pe_lst (pa_cons (pe_un un_neg pe_int) (pa_cons (pv 2) (pa_cons (pe_op op_add (pv 2) (pv 4)) (pa_cons (pe_op op_sub (pe_un un_neg pe_int) (pv 4)) pa_nil))))) (pe_op op_mod (pe_op op_fdiv (pv 10) pe_int) pe_int) (fun _ _ => rfl)))) pss_nil)
  (Evl.pss_cut (ps_if (pt_cmpR op_eq (pe_op op_mod (pv 10) pe_int) pe_int (nomark _))
  (pss_one (ps_set (i := 8) sc_law_bent.nd rfl (by first | exact Or.inl rfl | exact Or.inr rfl) (pe_ix ix_list (pe_lst (pa_cons (pe_un un_neg pe_int) (pa_cons (pv 2) (pa_cons (pe_op op_add (pv 2) (pv 4)) (pa_cons (pe_op op_sub (pe_un un_neg pe_int) (pv 4)) pa_nil))))) (pe_op op_mod (pe_op op_fdiv (pv 10) pe_int) pe_int) (fun _ _ => rfl)))) pss_nil)
  (Evl.pss_cut (ps_if (pt_cmpR op_eq (pe_op op_mod (pv 10) pe_int) pe_int (nomark _))
  (pss_one (ps_set (i := 9) sc_law_bent.nd rfl (by first | exact Or.inl rfl | exact Or.inr rfl) (pe_ix ix_list (pe_lst (pa_cons (pe_un un_neg pe_int) (pa_cons pe_int (pa_cons pe_int (pa_cons (pe_op op_add pe_int (pv 4)) pa_nil))))) (pe_op op_mod (pe_op op_fdiv (pv 10) pe_int) pe_int) (fun _ _ => rfl)))) pss_nil)
  (pss_one (ps_if (pt_cmpR op_lt (pe_op op_mod (pv 10) pe_int) pe_int (nomark _))
  (pss_one (ps_set (i := 3) sc_law_bent.nd rfl (by first | exact Or.inl rfl | exact Or.inr rfl) (pe_op op_cat (pe_op op_cat (pe_slice sl_list (pv 3) po_none (po_some (pv 6))) (pe_lst (pa_cons (pe_tup (pa_cons (pv 7) (pa_cons (pv 8) (pa_cons (pv 9) pa_nil)))) pa_nil))) (pe_slice sl_list (pv 3) (po_some (pe_op op_add (pv 6) pe_int)) po_none)))) (pss_one (ps_if (pt_cmpR op_gt (pe_callB call_len_seq (by rfl) T.n_len boot_len (pa_cons (pv 3) pa_nil)) pe_int (nomark _))
  (pss_one (ps_set (i := 3) sc_law_bent.nd rfl (by first | exact Or.inl rfl | exact Or.inr rfl) (pe_op op_cat (pe_slice sl_list (pv 3) po_none (po_some (pv 6))) (pe_slice sl_list (pv 3) (po_some (pe_op op_add (pv 6) pe_int)) po_none)))) pss_nil)))))))))))
  (Evl.pss_cut (ps_if (pt_cmpR op_eq (pe_op op_mod (pe_call (ok_law_cell_at T) (HR.mono (by decide)) (by rfl) T.g_law_cell_at T.F_law_cell_at.kp T.b_law_cell_at .nil pass0 (pa_cons (pv 0) (pa_cons pe_int pa_nil))) pe_int) pe_int (nomark _))
  (pss_cons (ps_set (i := 11) sc_law_bent.nd rfl (by first | exact Or.inl rfl | exact Or.inr rfl) (pe_ix ix_list (pe_lst (pa_cons pe_int (pa_cons pe_int (pa_cons pe_int (pa_cons pe_int (pa_cons pe_int (pa_cons pe_int pa_nil))))))) (pe_op op_mod (pe_op op_fdiv (pe_call (ok_law_cell_at T) (HR.mono (by decide)) (by rfl) T.g_law_cell_at T.F_law_cell_at.kp T.b_law_cell_at .nil pass0 (pa_cons (pv 0) (pa_cons pe_int pa_nil))) pe_int) pe_int) (fun _ _ => rfl)))
  (pss_one (ps_set (i := 3) sc_law_bent.nd rfl (by first | exact Or.inl rfl | exact Or.inr rfl) (pe_op op_cat (pv 3) (pe_op op_rep (pe_lst (pa_cons (pe_ix ix_list (pv 3) pe_int (fun _ _ => rfl)) pa_nil)) (pe_op op_sub (pv 11) (pe_callB call_len_seq (by rfl) T.n_len boot_len (pa_cons (pv 3) pa_nil)))))))) pss_nil)
  (Evl.pss_cut (ps_if (pt_cmpR op_eq (pe_op op_mod (pe_call (ok_law_cell_at T) (HR.mono (by decide)) (by rfl) T.g_law_cell_at T.F_law_cell_at.kp T.b_law_cell_at .nil pass0 (pa_cons (pv 0) (pa_cons pe_int pa_nil))) pe_int) pe_int (nomark _))
  (pss_one (ps_set (i := 3) sc_law_bent.nd rfl (by first | exact Or.inl rfl | exact Or.inr rfl) (pe_slice sl_list (pv 3) po_none (po_some (pe_op op_mod (pe_op op_fdiv (pe_call (ok_law_cell_at T) (HR.mono (by decide)) (by rfl) T.g_law_cell_at T.F_law_cell_at.kp T.b_law_cell_at .nil pass0 (pa_cons (pv 0) (pa_cons pe_int pa_nil))) pe_int) (pe_op op_add (pe_callB call_len_seq (by rfl) T.n_len boot_len (pa_cons (pv 3) pa_nil)) pe_int)))))) pss_nil)
  (pss_one (ps_ret (pv 3)))))))), ?_⟩
    refine q_asgK (ek_listT (ev_var rfl) hb hT0) fun D0 H1 us0 hD0 e1 h1 t1 => ?_
    refine q_asg (v := .int (cell ns ((9 : Nat) : Int) % 10 ^ 20)) (ev_op (cc _ _ _ 9 e1 rfl ev_c) (ev_op ev_c ev_c (rv_I pw20)) (rv_I p20)) fun H2 e2 => ?_
    generalize cell ns ((9 : Nat) : Int) % 10 ^ 20 = far
    have e02 := e1.trans e2
    have hlo := Int.emod_nonneg (cell ns ((10 : Nat) : Int)) (by decide : (3 : Int) ≠ 0)
    have hhi := Int.emod_lt_of_pos (cell ns ((10 : Nat) : Int)) (by decide : (0 : Int) < 3)
    refine q_forR1 (n := cell ns ((10 : Nat) : Int) % 3) (ea_cons (ev_op (cc _ _ _ 10 e02 rfl ev_c) ev_c (rv_I p3)) ea_nil) ⟨by omega, by omega⟩ (fun i σ' H' => ∃ (D : Addr) (us : List V) (ws : List IW) (r5 r6 r7 r8 r9 r10 : Option V), σ' = [some (.ref a), some (.ref b), some (.int (n : Int)), some (.ref D), some (.int far), r5, r6, r7, r8, r9, r10, none] ∧ H' D = some (.lst us) ∧ Tups H' us (ws.map wayI) ∧ 1 ≤ ws.length ∧ ws.length ≤ 40 ∧ Ex H H')
      (fun H3 e3 => ⟨D0, us0, ws0, none, none, none, none, none, none, rfl, (e2.trans e3) _ _ h1, t1.ex (e2.trans e3), w01, w040, e02.trans e3⟩) ?_ ?_
    · rintro i σ' H' hi ⟨D, us, ws, r5, r6, r7, r8, r9, r10, rfl, hD, hT, w1, w40, e⟩
      have hul : us.length = ws.length := hT.1.trans (List.length_map _)
      generalize ht : (cell ns ((11 + i : Nat) : Int) % (ws.length : Int)).toNat = t
      have hte : cell ns ((11 + i : Nat) : Int) % (ws.length : Int) = (t : Int) := by
        have := Int.emod_nonneg (cell ns ((11 + i : Nat) : Int)) (by omega : (ws.length : Int) ≠ 0)
        omega
      have htl : t < ws.length := by
        have := Int.emod_lt_of_pos (cell ns ((11 + i : Nat) : Int)) (by omega : (0 : Int) < (ws.length : Int))
        omega
      refine q_asg (v := .int (t : Int)) (ev_is (ev_op (cc _ _ _ (11 + i) e rfl (ev_is (ev_op ev_c (ev_var rfl) rv_I0) (by rw [Int.natCast_add]; rfl))) (ev_len (ev_var rfl) (sq_of hD)) (rv_I (by show (0 : Int) < (us.length : Int); omega))) (by rw [hul]; exact congrArg V.int hte)) fun H3 e3 => ?_
      obtain ⟨q0, hq0, hq0t⟩ := hT.2 t (wayI ws[t]) (by rw [List.getElem?_map, List.getElem?_eq_getElem htl]; rfl)
      obtain ⟨m1, m2, m3, hm⟩ : ∃ m1 m2 m3 : Int, ws[t] = (m1, m2, m3) := ⟨_, _, _, rfl⟩
      rw [hm] at hq0t
      refine q_asg3 (K := K) (p := q0) (a := .int m1) (b := .int m2) (c := .int m3) (ev_op (ev_var rfl) (ev_var rfl) (rv_ixL (sq_of (e3 _ _ hD)) (at_nat hq0))) (e3 _ _ hq0t) fun H4 e4 => ?_
      have e34 := e3.trans e4
      generalize hx : mixN (cell ns ((13 + i : Nat) : Int)) i = x
      refine q_asg (v := .int (x : Int)) (ev_is (cmix _ _ _ _ _ i (cc _ _ _ (13 + i) (e.trans e34) rfl (ev_is (ev_op ev_c (ev_var rfl) rv_I0) (by rw [Int.natCast_add]; rfl))) (ev_var rfl)) (by rw [hx])) fun H5 e5 => ?_
      have e35 := e34.trans e5
      obtain ⟨ya, hya⟩ := at4i (x := (x : Int) / 4) (-1) (n : Int) ((n : Int) + far) (-1 - far)
      obtain ⟨yb, hyb⟩ := at4i (x := (x : Int) / 4) (-1) 10000 9999 (10000 + far)
      have eqt : ∀ (σ : L2.St) (H6 : Hp) (z : Int), σ[10]? = some (some (.int (x : Int))) → EvT (tTest (tOp rEq (tOp (rI (fun x j => 0 < j) fun i j => V.int (i % j)) (tVar 10) (tC (.int 4))) (tC (.int z)))) σ H6 (decide ((x : Int) % 4 = z)) := fun σ H6 z hσ =>
        et_is (et_test (ev_op (ev_op (ev_var hσ) ev_c (rv_I p4)) ev_c (rv_eq rfl))) (decide_eq_decide.mpr ⟨fun z => V.int.inj z, fun z => congrArg V.int z⟩)
      have pickA : ∀ (σ : L2.St) (H6 : Hp), σ[10]? = some (some (.int (x : Int))) → σ[2]? = some (some (.int (n : Int))) → σ[4]? = some (some (.int far)) →
          Ev (tOp (rIxL K) (tLst (tCons (tUn (rU fun i => V.int (-i)) (tC (.int 1))) (tCons (tVar 2) (tCons (tOp (rI0 fun i j => V.int (i + j)) (tVar 2) (tVar 4)) (tCons (tOp (rI0 fun i j => V.int (i - j)) (tUn (rU fun i => V.int (-i)) (tC (.int 1))) (tVar 4)) tNil))))) (tOp (rI (fun x j => 0 < j) fun i j => V.int (i % j)) (tOp (rI CDiv fun i j => V.int (i / j)) (tVar 10) (tC (.int 4))) (tC (.int 4)))) σ H6 (.int ya) := fun σ H6 s10 s2 s4 =>
        ev_opL1 (xs := [.int (-1), .int (n : Int), .int ((n : Int) + far), .int (-1 - far)]) (el_lst (ea_cons (ev_un ev_c ru_neg) (ea_cons (ev_var s2) (ea_cons (ev_op (ev_var s2) (ev_var s4) rv_I0) (ea_cons (ev_op (ev_un ev_c ru_neg) (ev_var s4) rv_I0) ea_nil)))) (by show 4 ≤ 100000; decide)) (fun H7 e7 => ev_op (ev_op (ev_var s10) ev_c (rv_I (d4 _))) ev_c (rv_I p4)) fun p H7 h7 e7 => rv_ixL (sq_of h7) hya
      refine q_cut (M := fun σ' H' => ∃ y1 : Int, σ' = [some (.ref a), some (.ref b), some (.int (n : Int)), some (.ref D), some (.int far), some (.int (i : Int)), some (.int (t : Int)), some (.int y1), some (.int m2), some (.int m3), some (.int (x : Int)), none] ∧ Ex H5 H') (s_when (eqt _ _ 0 rfl) (fun _ H6 e6 => s_asg (pickA _ _ rfl rfl rfl) fun H7 e7 => ⟨ya, rfl, e6.trans e7⟩) (fun _ H6 e6 => ⟨m1, rfl, e6⟩)) ?_
      rintro _ H6 ⟨y1, rfl, e6⟩
      refine q_cut (M := fun σ' H' => ∃ y2 : Int, σ' = [some (.ref a), some (.ref b), some (.int (n : Int)), some (.ref D), some (.int far), some (.int (i : Int)), some (.int (t : Int)), some (.int y1), some (.int y2), some (.int m3), some (.int (x : Int)), none] ∧ Ex H5 H') (s_when (eqt _ _ 1 rfl) (fun _ H7 e7 => s_asg (pickA _ _ rfl rfl rfl) fun H8 e8 => ⟨ya, rfl, (e6.trans e7).trans e8⟩) (fun _ H7 e7 => ⟨m2, rfl, e6.trans e7⟩)) ?_
      rintro _ H7 ⟨y2, rfl, e7⟩
      refine q_cut (M := fun σ' H' => ∃ y3 : Int, σ' = [some (.ref a), some (.ref b), some (.int (n : Int)), some (.ref D), some (.int far), some (.int (i : Int)), some (.int (t : Int)), some (.int y1), some (.int y2), some (.int y3), some (.int (x : Int)), none] ∧ Ex H5 H') (s_when (eqt _ _ 2 rfl) (fun _ H8 e8 => s_asg (v := .int yb) (ev_opL1 (xs := [.int (-1), .int 10000, .int 9999, .int (10000 + far)]) (el_lst (ea_cons (ev_un ev_c ru_neg) (ea_cons ev_c (ea_cons ev_c (ea_cons (ev_op ev_c (ev_var rfl) rv_I0) ea_nil)))) (by show 4 ≤ 100000; decide)) (fun H9 e9 => ev_op (ev_op (ev_var rfl) ev_c (rv_I (d4 _))) ev_c (rv_I p4)) fun p H9 h9 e9 => rv_ixL (sq_of h9) hyb) fun H9 e9 => ⟨yb, rfl, (e7.trans e8).trans e9⟩) (fun _ H8 e8 => ⟨m3, rfl, e7.trans e8⟩)) ?_
      rintro _ H8 ⟨y3, rfl, e8⟩
      have eX := e35.trans e8
      have ltk : ∀ k, (ws.take k).length = min k ws.length := fun k => List.length_take
      have ldr : ∀ k, (ws.drop k).length = ws.length - k := fun k => List.length_drop
      refine s_if (b := decide ((x : Int) % 4 < 3)) (et_test (ev_op (ev_op (ev_var rfl) ev_c (rv_I p4)) ev_c rv_I0)) (fun _ H9 e9 => ?_) (fun _ H9 e9 => ?_)
      · have eY := eX.trans e9
        refine s_asgK (ek_catT (ek_catT (ek_takeT (t := t) (ev_var rfl) (ev_var rfl) (eY _ _ hD) (hT.ex eY)) (ek_oneT (x := wayI (y1, y2, y3)) (eu_tup (ea_cons (ev_var rfl) (ea_cons (ev_var rfl) (ea_cons (ev_var rfl) ea_nil))) (by show 3 ≤ 100000; decide))) ?_) (ek_dropT (t := t + 1) (ev_var rfl) (ev_op (ev_var rfl) ev_c rv_I0) (eY _ _ hD) (hT.ex eY)) ?_) fun D2 H10 us2 e10 h10 t10 => ⟨D2, us2, ws.take t ++ [(y1, y2, y3)] ++ ws.drop (t + 1), _, _, _, _, _, _, rfl, h10, ?_, ?_, ?_, (e.trans eY).trans e10⟩
        · rw [List.length_take, List.length_map]
          show _ + 1 ≤ 100000
          omega
        · rw [List.length_append, List.length_take, List.length_drop, List.length_map]
          show _ + 1 + _ ≤ 100000
          omega
        · rw [List.map_append, List.map_append, List.map_take, List.map_drop]
          exact t10
        · rw [List.length_append, List.length_append]
          show 1 ≤ _ + 1 + _
          omega
        · rw [List.length_append, List.length_append, ltk, ldr]
          show _ + 1 + _ ≤ 40
          omega
      · have eY := eX.trans e9
        refine s_when (b := decide ((1 : Int) < (ws.length : Int))) (et_test (ev_op (ev_is (ev_len (ev_var rfl) (sq_of (eY _ _ hD))) (by rw [hul])) ev_c rv_I0)) (fun hb H10 e10 => ?_) (fun _ H10 e10 => ⟨D, us, ws, _, _, _, _, _, _, rfl, (eY.trans e10) _ _ hD, hT.ex (eY.trans e10), w1, w40, e.trans (eY.trans e10)⟩)
        have h1 := of_decide_eq_true hb
        have eZ := eY.trans e10
        refine s_asgK (ek_catT (ek_takeT (t := t) (ev_var rfl) (ev_var rfl) (eZ _ _ hD) (hT.ex eZ)) (ek_dropT (t := t + 1) (ev_var rfl) (ev_op (ev_var rfl) ev_c rv_I0) (eZ _ _ hD) (hT.ex eZ)) ?_) fun D2 H11 us2 e11 h11 t11 => ⟨D2, us2, ws.take t ++ ws.drop (t + 1), _, _, _, _, _, _, rfl, h11, ?_, ?_, ?_, (e.trans eZ).trans e11⟩
        · rw [List.length_take, List.length_drop, List.length_map]
          omega
        · rw [List.map_append, List.map_take, List.map_drop]
          exact t11
        · rw [List.length_append, ltk, ldr]
          omega
        · rw [List.length_append, ltk, ldr]
          omega
    rintro σ' H3 ⟨D, us, ws, r5, r6, r7, r8, r9, r10, rfl, hD, hT, w1, w40, e3⟩
    have hul : us.length = ws.length := hT.1.trans (List.length_map _)
    have eq6 : ∀ (σ : L2.St) (H6 : Hp) (z : Int), Ex H H6 → σ[0]? = some (some (.ref a)) → EvT (tTest (tOp rEq (tOp (rI (fun x j => 0 < j) fun i j => V.int (i % j)) (tCall (sp_law_cell_at K) [] E0 (tCons (tVar 0) (tCons (tC (.int 15)) tNil))) (tC (.int 6))) (tC (.int z)))) σ H6 (decide (cell ns ((15 : Nat) : Int) % 6 = z)) := fun σ H6 z e6 hσ =>
      et_is (et_test (ev_op (ev_op (cc _ _ _ 15 e6 hσ ev_c) ev_c (rv_I p6)) ev_c (rv_eq rfl))) (decide_eq_decide.mpr ⟨fun z => V.int.inj z, fun z => congrArg V.int z⟩)
    refine q_cut (M := fun σ' H' => ∃ (D : Addr) (us : List V) (ws : List IW) (r11 : Option V), σ' = [some (.ref a), some (.ref b), some (.int (n : Int)), some (.ref D), some (.int far), r5, r6, r7, r8, r9, r10, r11] ∧ H' D = some (.lst us) ∧ Tups H' us (ws.map wayI) ∧ ws.length ≤ 70 ∧ Ex H H') (s_when (eq6 _ _ 1 e3 rfl) (fun _ H4 e4 => ?_) (fun _ H4 e4 => ⟨D, us, ws, _, rfl, e4 _ _ hD, hT.ex e4, by omega, e3.trans e4⟩)) ?_
    · obtain ⟨sz, s1, s2, hat⟩ := at6 (x := cell ns ((15 : Nat) : Int) / 6)
      refine q_asg (v := .int (sz : Int)) (ev_opL1 (el_lst (ea_cons ev_c (ea_cons ev_c (ea_cons ev_c (ea_cons ev_c (ea_cons ev_c (ea_cons ev_c ea_nil)))))) (by show 6 ≤ 100000; decide)) (fun H5 e5 => ev_op (ev_op (cc _ _ _ 15 ((e3.trans e4).trans e5) rfl ev_c) ev_c (rv_I (d6 _))) ev_c (rv_I p6)) fun p H5 h5 e5 => rv_ixL (sq_of h5) hat) fun H5 e5 => ?_
      have e45 := e4.trans e5
      obtain ⟨q0, hq0, hq0t⟩ := hT.2 0 (wayI ws[0]) (by rw [List.getElem?_map, List.getElem?_eq_getElem w1]; rfl)
      refine s_asgK (ek_catT (ek_stand (ev_var rfl) (e45 _ _ hD) (hT.ex e45)) (ek_repT (n := sz - ws.length) (qa := q0) (ev_op (ev_var rfl) ev_c (rv_ixL (sq_of (e45 _ _ hD)) (at_nat hq0))) (e45 _ _ hq0t) (ev_is (ev_op (ev_var rfl) (ev_len (ev_var rfl) (sq_of (e45 _ _ hD))) rv_I0) (by rw [hul]; exact congrArg V.int (by omega))) (by omega)) ?_) fun D2 H6 us2 e6 h6 t6 => ⟨D2, us2, ws ++ List.replicate (sz - ws.length) ws[0], _, rfl, h6, ?_, ?_, (e3.trans e45).trans e6⟩
      · rw [List.length_map, List.length_replicate]
        omega
      · rw [List.map_append, List.map_replicate]
        exact t6
      · rw [List.length_append, List.length_replicate]
        omega
    rintro _ H4 ⟨D4, us4, ws4, r11, rfl, hD4, hT4, w70, e4⟩
    have hul4 : us4.length = ws4.length := hT4.1.trans (List.length_map _)
    refine q_cut (M := fun σ' H' => ∃ (D : Addr) (us : List V) (ws : List IW), σ' = [some (.ref a), some (.ref b), some (.int (n : Int)), some (.ref D), some (.int far), r5, r6, r7, r8, r9, r10, r11] ∧ H' D = some (.lst us) ∧ Tups H' us (ws.map wayI) ∧ ws.length ≤ 70 ∧ Ex H H') (s_when (eq6 _ _ 2 e4 rfl) (fun _ H5 e5 => ?_) (fun _ H5 e5 => ⟨D4, us4, ws4, rfl, e5 _ _ hD4, hT4.ex e5, w70, e4.trans e5⟩)) ?_
    · generalize ht : (cell ns ((15 : Nat) : Int) / 6 % ((ws4.length : Int) + 1)).toNat = t
      have hte : cell ns ((15 : Nat) : Int) / 6 % ((ws4.length : Int) + 1) = (t : Int) := by
        have := Int.emod_nonneg (cell ns ((15 : Nat) : Int) / 6) (by omega : ((ws4.length : Int) + 1) ≠ 0)
        omega
      refine s_asgK (ek_takeT (t := t) (ev_var rfl) (ev_is (ev_op (ev_op (cc _ _ _ 15 (e4.trans e5) rfl ev_c) ev_c (rv_I (d6 _))) (ev_op (ev_len (ev_var rfl) (sq_of (e5 _ _ hD4))) ev_c rv_I0) (rv_I (by show (0 : Int) < (us4.length : Int) + 1; omega))) (by rw [hul4]; exact congrArg V.int hte)) (e5 _ _ hD4) (hT4.ex e5)) fun D2 H6 us2 e6 h6 t6 => ⟨D2, us2, ws4.take t, rfl, h6, ?_, ?_, (e4.trans e5).trans e6⟩
      · rw [List.map_take]
        exact t6
      · rw [List.length_take]
        omega
    rintro _ H5 ⟨D5, us5, ws5, rfl, hD5, hT5, w5, e5⟩
    exact s_ret (ev_var rfl) fun H6 e6 => q ws5 w5 D5 H6 us5 (e5.trans e6) (e6 _ _ hD5) (hT5.ex e6)
/-! ### the law -/
def castW (w : Way) : IW := ((w.1 : Int), (w.2.1 : Int), (w.2.2 : Int))
theorem cast_ways (ws : List Way) : ws.map wayV = (ws.map castW).map wayI := by
  rw [List.map_map]
  rfl
def fw : Ref → Str
  | .fine => ""
  | .count => "refused " ++ "count"
  | .meeting => "refused " ++ "meeting"
  | .delay => "refused " ++ "delay"
  | .apart => "refused " ++ "apart"
theorem iw_inj : ∀ a b : IW, [a.1, a.2.1, a.2.2] = [b.1, b.2.1, b.2.2] → a = b := fun ⟨a1, a2, a3⟩ ⟨b1, b2, b3⟩ h => by
  injection h with h1 h2
  injection h2 with h2 h3
  injection h3 with h3
  dsimp only at h1 h2 h3
  rw [h1, h2, h3]
theorem ref_fine_inv {m : Int} {ws : List IW} (h : refOf m ws = .fine) : ¬ BadC m ws ∧ (¬ ∃ w ∈ ws, BadW m.toNat w) ∧ (¬ ∃ w ∈ ws, BadD w) ∧ WebOk m.toNat (ws.map natW) := by
  by_cases h1 : BadC m ws
  · rw [ref_count h1] at h
    cases h
  by_cases h2 : ∃ w ∈ ws, BadW m.toNat w
  · rw [ref_meeting h1 h2] at h
    cases h
  by_cases h3 : ∃ w ∈ ws, BadD w
  · rw [ref_delay h1 h2 h3] at h
    cases h
  by_cases h4 : WebOk m.toNat (ws.map natW)
  · exact ⟨h1, h2, h3, h4⟩
  · rw [ref_apart h1 h2 h3 h4] at h
    cases h
theorem op_neK {X : Cx} {K : PySem.W.Frag} (hK : X.K = K) (hu : X.A.units + 64 < cLine) : OpR X (compareOp .NotEq) (rNeD K) := hK ▸ op_neD hu
theorem pe_fldK {X : Cx} {K : PySem.W.Frag} {e : Expr} {ta : TE} {f : Str} {pos : Pos} (hK : X.K = K) (he : PE X e ta) (hb : attributeBase e f X.env (eval e X.env) = eval e X.env) : PE X (.Attribute e f pos) (tFld K ta f) := hK ▸ pe_fld he hb
section
variable {K : PySem.W.Frag} {σ : L2.St} {H : Hp} {ta tb : TE} {D : Ends} {tz : TS}
theorem ev_neI {p q : Addr} {us vs : List V} {ws : List IW} (ha : Ev ta σ H (.ref p)) (hb : Ev tb σ H (.ref q)) (hp : H p = some (.lst us)) (ht : Tups H us (ws.map wayI)) (hq : H q = some (.lst vs)) (hs : Tups H vs (ws.map wayI)) : Ev (tOp (rNeD K) ta tb) σ H (.bl false) :=
  ev_is (ev_op ha hb (by
    have rr := rv_neD (K := K) (H := H) (x := .ref p) (y := .ref q) (dp_tl (f := fun w : IW => [w.1, w.2.1, w.2.2]) hp ht) (dp_tl (f := fun w : IW => [w.1, w.2.1, w.2.2]) hq hs) (shaped_tups _ _) (shaped_tups _ _)
    rw [PyData.eqv, eqv_tups _ iw_inj] at rr
    exact rr)) (by simp)
theorem ev_eqI {p q : Addr} {us vs : List V} {ws : List IW} (ha : Ev ta σ H (.ref p)) (hb : Ev tb σ H (.ref q)) (hp : H p = some (.lst us)) (ht : Tups H us (ws.map wayI)) (hq : H q = some (.lst vs)) (hs : Tups H vs (ws.map wayI)) : Ev (tOp (rEqD K) ta tb) σ H (.bl true) :=
  ev_is (ev_op ha hb (by
    have rr := rv_eqD (K := K) (H := H) (x := .ref p) (y := .ref q) (dp_tl (f := fun w : IW => [w.1, w.2.1, w.2.2]) hp ht) (dp_tl (f := fun w : IW => [w.1, w.2.1, w.2.2]) hq hs) (shaped_tups _ _) (shaped_tups _ _)
    rw [PyData.eqv, eqv_tups _ iw_inj] at rr
    exact rr)) (by simp)
theorem q_makeS {C : Addr} {sp : Sp} {E : L2.St → XK} {x y : V} {i : Nat} (ha : Ev ta σ H x) (hb : Ev tb σ H y)
    (k : ∀ H1, Ex H H1 → ∀ p dx, H1 p = none → H1 dx = none → dx ≠ p → sp [.ref p, x, y] (upd (upd H1 dx (.own p)) p (.ins C dx [])) (fun v H2 => v = .non ∧ tz D (σ.set i (some (.ref p))) H2) (E σ)) : tSeq (tAsg (tMakeS C sp E (tCons ta (tCons tb tNil))) (gName i)) tz D σ H :=
  ha H (Ex.refl H) _ fun H1 e1 => hb H1 e1 _ fun H2 e2 p dx hp hd hn => k H2 (e1.trans e2) p dx hp hd hn
theorem s_word {wd : Str} {a : Addr} {E : L2.St → XK} {i j : Nat} (hj : σ[j]? = some (some (.ref a))) (k : ∀ H1, Ex H H1 → D.nx (σ.set i (some (.str ("refused " ++ wd)))) H1) : tAsg (tCallS (sp_law_word_of wd a) E (tCons (tVar j) tNil)) (gName i) D σ H :=
  ⟨_, hj, rfl, fun H1 e1 => k H1 e1⟩
end
theorem call_mid {σ : L2.St} {H2 : Hp} {ta tb tc : TE} {x z : V} {sp : Sp} {E : XK} {Q : VK} {n B : Nat} (ha : ∀ H, Ev ta σ H x) (hb : ∀ H3, Ex H2 H3 → EvK tb σ H3 (RetWays n B)) (hc : ∀ H, Ev tc σ H z)
    (k : ∀ H3, Ex H2 H3 → ∀ ws D H4 us, WebOk n ws → (∀ w ∈ ws, w.2.2 ≤ B) → ws.length ≤ 40 → LamX.ExtN H3 H4 → H4 D = some (.lst us) → Tups H4 us (ws.map wayV) → ∀ H5, Ex H4 H5 → sp [x, .ref D, z] H5 Q E) : tCall sp [] E (tCons ta (tCons tb (tCons tc tNil))) σ H2 Q :=
  ha H2 H2 (Ex.refl _) _ fun H3 e3 => hb H3 e3 H3 (Ex.refl _) _ fun ws D H4 us h1 h2 h3 h4 h5 h6 => hc H4 H4 (Ex.refl _) _ fun H5 e5 => k H3 e3 ws D H4 us h1 h2 h3 h4 h5 h6 H5 e5
def RetB (H : Hp) (Q : VK) : Prop := ∀ (ws : List IW) (D : Addr) (H2 : Hp) (us : List V), ws.length ≤ 70 → LamX.ExtN H H2 → H2 D = some (.lst us) → Tups H2 us (ws.map wayI) → Q (.ref D) H2
def sp_law (K : PySem.W.Frag) (P0 : Addr) : Sp := fun vs H Q _ => ∃ (a : Addr) (ns : List Int), vs = [.ref a] ∧ SqL K H a (ns.map V.int) ∧ LamX.Tabs (lamT P0) H ∧ ∀ H', Q (.bl true) H'
abbrev s_law : Stmt := (top 25)
abbrev N_law : List Str := ["_law_script", "_law_many_here", "_law_ways_here", "_law_handed", "_law_found", "_law_web", "e", "_law_due_here"]
theorem sc_law : FnScope N_law ["_law_script"] (defScope s_law) := ⟨rfl, rfl, rfl, by decide +kernel, rfl, by decide +kernel, by decide +kernel⟩

theorem ok_law (T : Txt K mg) (TB : LamX.TabB base mg T.c_lw T.P_lw) : FnOk P w K mg base CX0 4 T.a_law T.d_law ["_law_script"] (sp_law K T.P_lw) := by
  refine okN T.F_law sc_law (fun vs H Q E h => ?_) (fun cdv A outer s H vs Q E HR h => ?_)
  · obtain ⟨a, ns, rfl, _⟩ := h
    rfl
  · obtain ⟨a, ns, rfl, hS0, hTb, q⟩ := h
    have p5 : (0 : Int) < 5 := by decide
    have p18 : (0 : Int) < 18 := by decide
    have d5 : ∀ x : Int, CDiv x 5 := fun x => ⟨by decide, by decide⟩
    refine ⟨_, (pss_cons (ps_set (i := 1) sc_law.nd rfl (by first | exact Or.inl rfl | exact Or.inr rfl) (pe_call (ok_law_many T) (HR.mono (by decide)) (by rfl) T.g_law_many T.F_law_many.kp T.b_law_many .nil pass0 (pa_cons (pv 0) pa_nil)))
  (pss_cons (ps_set (i := 2) sc_law.nd rfl (by first | exact Or.inl rfl | exact Or.inr rfl) (pe_call (ok_law_bent T) (HR.mono (by decide)) (by rfl) T.g_law_bent T.F_law_bent.kp T.b_law_bent .nil pass0 (pa_cons (pv 0) (pa_cons (pe_call (ok_law_ways T TB) (HR.mono (by decide)) (by rfl) T.g_law_ways T.F_law_ways.kp T.b_law_ways .nil pass0 (pa_cons (pv 0) (pa_cons (pv 1) pa_nil))) (pa_cons (pv 1) pa_nil)))))
  (Evl.pss_cut (ps_if (pt_cmpR op_eq (pe_op op_mod (pe_call (ok_law_cell_at T) (HR.mono (by decide)) (by rfl) T.g_law_cell_at T.F_law_cell_at.kp T.b_law_cell_at .nil pass0 (pa_cons (pv 0) (pa_cons pe_int pa_nil))) pe_int) pe_int (nomark _))
  (pss_one (ps_set (i := 1) sc_law.nd rfl (by first | exact Or.inl rfl | exact Or.inr rfl) (pe_op op_sub (pe_op op_mod (pe_op op_fdiv (pe_call (ok_law_cell_at T) (HR.mono (by decide)) (by rfl) T.g_law_cell_at T.F_law_cell_at.kp T.b_law_cell_at .nil pass0 (pa_cons (pv 0) (pa_cons pe_int pa_nil))) pe_int) pe_int) pe_int))) pss_nil)
  (pss_cons (ps_set (i := 3) sc_law.nd rfl (by first | exact Or.inl rfl | exact Or.inr rfl) (pe_callTy call_list_of (by rfl) T.n_list (by decide +kernel) (pa_cons (pv 2) pa_nil)))
  (pss_cons (ps_set (i := 4) sc_law.nd rfl (by first | exact Or.inl rfl | exact Or.inr rfl) pe_str)
  (Evl.pss_cut (L2N.ps_try_as (i := 6) rfl rfl sc_law.nd rfl rfl ⟨rfl, by decide, .inl T.g_PaceError⟩ tk0 (fun W pn xe TK PO =>
  (pss_cons (ps_set (i := 5) sc_law.nd rfl (by first | exact Or.inl rfl | exact Or.inr rfl) (pe_makeS T.M_Web (okx_Web_init T) (HR.mono (by decide)) (by rfl) T.g_Web T.b_Web_init (fun σ => L2N.passAt TK σ) (pa_cons (pv 1) (pa_cons (pv 3) pa_nil))))
  (pss_one (ps_if (PW.pt (pw_or (pt_cmpR op_ne (pe_fldK (K := K) rfl (pv 5) rfl) (pv 1) (nomark _)) (pw_or1 (pt_cmpR (op_neK (K := K) rfl HR.units) (pe_fldK (K := K) rfl (pv 5) rfl) (pv 2) (nomark _)))))
  (pss_one (ps_ret pe_bl)) pss_nil))))
  (fun a oe cls d pn hz hf => (pss_or (pss_known (D := T.a_BadCount) hz fun hz => (pss_one (ps_set (i := 4) sc_law.nd rfl (by first | exact Or.inl rfl | exact Or.inr rfl) (pe_callE (a := a) (oe := oe) (E := fun _ _ _ _ => False) (okBadCount_law_word_of T) (isExc_of hz hf) (hot1_of hz hf) List.mem_cons_self (roomH_mark (L2H.roomH_of (HR.mono (by decide)))) (by rfl) T.g_law_word_of T.F_law_word_of.kp T.b_law_word_of (pa_cons (pv 6) pa_nil))))) (pss_or (pss_known (D := T.a_NoMeeting) hz fun hz => (pss_one (ps_set (i := 4) sc_law.nd rfl (by first | exact Or.inl rfl | exact Or.inr rfl) (pe_callE (a := a) (oe := oe) (E := fun _ _ _ _ => False) (okNoMeeting_law_word_of T) (isExc_of hz hf) (hot1_of hz hf) List.mem_cons_self (roomH_mark (L2H.roomH_of (HR.mono (by decide)))) (by rfl) T.g_law_word_of T.F_law_word_of.kp T.b_law_word_of (pa_cons (pv 6) pa_nil))))) (pss_or (pss_known (D := T.a_BadDelay) hz fun hz => (pss_one (ps_set (i := 4) sc_law.nd rfl (by first | exact Or.inl rfl | exact Or.inr rfl) (pe_callE (a := a) (oe := oe) (E := fun _ _ _ _ => False) (okBadDelay_law_word_of T) (isExc_of hz hf) (hot1_of hz hf) List.mem_cons_self (roomH_mark (L2H.roomH_of (HR.mono (by decide)))) (by rfl) T.g_law_word_of T.F_law_word_of.kp T.b_law_word_of (pa_cons (pv 6) pa_nil))))) (pss_known (D := T.a_Apart) hz fun hz => (pss_one (ps_set (i := 4) sc_law.nd rfl (by first | exact Or.inl rfl | exact Or.inr rfl) (pe_callE (a := a) (oe := oe) (E := fun _ _ _ _ => False) (okApart_law_word_of T) (isExc_of hz hf) (hot1_of hz hf) List.mem_cons_self (roomH_mark (L2H.roomH_of (HR.mono (by decide)))) (by rfl) T.g_law_word_of T.F_law_word_of.kp T.b_law_word_of (pa_cons (pv 6) pa_nil))))))))))
  (pss_cons (ps_set (i := 7) sc_law.nd rfl (by first | exact Or.inl rfl | exact Or.inr rfl) (pe_call (ok_law_due T) (HR.mono (by decide)) (by rfl) T.g_law_due T.F_law_due.kp T.b_law_due .nil pass0 (pa_cons (pv 1) (pa_cons (pv 2) pa_nil))))
  (Evl.pss_cut (ps_if (pt_cmpR op_ne (pv 7) pe_str (nomark _))
  (pss_one (ps_set (i := 7) sc_law.nd rfl (by first | exact Or.inl rfl | exact Or.inr rfl) (pe_op op_add_str pe_str (pv 7)))) pss_nil)
  (pss_one (ps_ret (pe_and (pe_cmpR op_eq (pv 4) (pv 7) (nomark _)) (pe_one (pe_cmpR (op_eqD HR.units) (pv 3) (pv 2) (nomark _)))))))))))))), ?_⟩
    refine q_asgK (C := fun H1 Q => ∀ n : Nat, 1 ≤ n → n ≤ 12 → RetV (.int (n : Int)) H1 Q) (EvA.toCall (fun _ _ _ e k n h1 h2 => mo_v _ _ _ e (k n h1 h2)) (ea_cons (ev_var rfl) ea_nil) fun H1 e1 Q E k => ⟨a, ns, rfl, ex_l e1 hS0, k⟩) fun n n1 n12 H1 e1 => ?_
    refine q_asgK (C := RetB) (fun H2 e2 Q q => ?_) fun ws D H2 us hwl eN hD hT => ?_
    · exact call_mid (n := n) (B := 9999) (x := .ref a) (z := .int (n : Int)) (fun H => ev_var rfl) (fun H3 e3 => EvA.toCall mo_ways (vs := [.ref a, .int (n : Int)]) (ea_cons (ev_var rfl) (ea_cons (ev_var rfl) ea_nil)) fun H4 e4 Q E k => ⟨a, ns, n, rfl, ex_l ((e1.trans e2).trans (e3.trans e4)) hS0, hTb.ext ((e1.trans e2).trans (e3.trans e4)), n1, n12, k⟩) (fun H => ev_var rfl)
        fun H3 e3 ws D H4 us hw hdel hl eN hD hT H5 e5 => ⟨a, D, ns, n, ws.map castW, us, rfl, ex_l e5 (ex_lN ((LamX.ExtN.of ((e1.trans e2).trans e3)).trans eN) hS0), e5 _ _ hD, by rw [← cast_ways]; exact hT.ex e5, by rw [List.length_map]; exact List.length_pos_iff.mpr hw.ne, by rw [List.length_map]; exact hl,
          fun ws2 h70 D2 H6 us2 e6 h6 t6 => q ws2 D2 H6 us2 h70 ((LamX.ExtN.of e3).trans (eN.trans (LamX.ExtN.of (e5.trans e6)))) h6 t6⟩
    have hS := ex_lN ((LamX.ExtN.of e1).trans eN) hS0
    have hul : us.length = ws.length := hT.1.trans (List.length_map _)
    have cc : ∀ (σ : L2.St) (H1 : Hp) (t : TE) (k : Nat), Ex H2 H1 → σ[0]? = some (some (.ref a)) → Ev t σ H1 (.int (k : Int)) → Ev (tCall (sp_law_cell_at K) [] E0 (tCons (tVar 0) (tCons t tNil))) σ H1 (.int (cell ns (k : Int))) := fun σ H1 t k e hσ ht =>
      ev_callV (ea_cons (ev_var hσ) (ea_cons ht ea_nil)) fun H2 e2 Q E q => ⟨a, ns, k, rfl, ex_l (e.trans e2) hS, by omega, q⟩
    refine q_cut (M := fun σ' H' => ∃ m : Int, σ' = [some (.ref a), some (.int m), some (.ref D), none, none, none, none, none] ∧ Ex H2 H') (s_when (b := decide (cell ns ((16 : Nat) : Int) % 5 = 1)) (et_is (et_test (ev_op (ev_op (cc _ _ _ 16 (Ex.refl _) rfl ev_c) ev_c (rv_I p5)) ev_c (rv_eq rfl))) (decide_eq_decide.mpr ⟨fun z => V.int.inj z, fun z => congrArg V.int z⟩)) (fun _ H3 e3 => s_asg (ev_op (ev_op (ev_op (cc _ _ _ 16 e3 rfl ev_c) ev_c (rv_I (d5 _))) ev_c (rv_I p18)) ev_c rv_I0) fun H4 e4 => ⟨_, rfl, e3.trans e4⟩) (fun _ H3 e3 => ⟨_, rfl, e3⟩)) ?_
    rintro _ H3 ⟨m, rfl, e3⟩
    refine q_asgK (ek_listT (ev_var rfl) (e3 _ _ hD) (hT.ex e3)) fun Dh H4 uh hDh e4 h4 t4 => ?_
    refine q_asg ev_c fun H5 e5 => ?_
    have e45 := e4.trans e5
    have e25 := e3.trans e45
    have h5 := e5 _ _ h4
    have t5 := t4.ex e5
    have hD5 := e25 _ _ hD
    have hT5 := hT.ex e25
    have huh : uh.length = ws.length := t4.1.trans (List.length_map _)
    refine q_cut (M := fun σ' H' => ∃ r5 : Option V, σ' = [some (.ref a), some (.int m), some (.ref D), some (.ref Dh), some (.str (fw (refOf m ws))), r5, none, none] ∧ Ex H5 H') ?_ ?_
    · refine q_makeS (ev_var rfl) (ev_var rfl) fun H6 e6 p dx hp hdx hne => ?_
      have eX : Ex H6 (upd (upd H6 dx (.own p)) p (.ins T.a_Web dx [])) := by
        intro b o hb
        rw [upd_ne (fun z => by rw [z, hp] at hb; cases hb), upd_ne (fun z => by rw [z, hdx] at hb; cases hb)]
        exact hb
      have e5X := e6.trans eX
      have back : ∀ H', ExB p (upd (upd H6 dx (.own p)) p (.ins T.a_Web dx [])) H' → Ex H5 H' := fun H' hB b o hb => hB b o (e5X _ _ hb) fun z => by
        rw [z] at hb
        rw [e6 _ _ hb] at hp
        cases hp
      have sh : (upd (upd H6 dx (.own p)) p (.ins T.a_Web dx [])) p = some (.ins T.a_Web dx []) := upd_same
      have sl := e5X _ _ h5
      have st := t5.ex e5X
      generalize upd (upd H6 dx (.own p)) p (.ins T.a_Web dx []) = HX at back sh sl st
      have refuse : ∀ D1, excOf T.a_BadCount T.a_NoMeeting T.a_BadDelay T.a_Apart (refOf m ws) = some D1 → ∀ Q E, (∀ H', Ex H5 H' → E (.ref D1) none H') → spx_Web_init T.a_Web T.a_BadCount T.a_NoMeeting T.a_BadDelay T.a_Apart [.ref p, .int m, .ref Dh] HX Q E := fun D1 h1 Q E k =>
        .inr ⟨p, dx, Dh, m, ws, uh, D1, rfl, sh, sl, st, by omega, h1, fun H' hB => k H' (back H' hB)⟩
      cases hr : refOf m ws with
      | count =>
        exact refuse T.a_BadCount (by rw [hr]; rfl) _ _ fun H' e' => ⟨true, T.X_BadCount.m, fun _ x hx => .inl ⟨⟨rfl, rfl⟩, s_word rfl fun H7 e7 => ⟨_, rfl, e'.trans e7⟩⟩, fun z => nomatch z⟩
      | meeting =>
        exact refuse T.a_NoMeeting (by rw [hr]; rfl) _ _ fun H' e' => ⟨true, T.X_NoMeeting.m, fun _ x hx => .inr (.inl ⟨⟨rfl, rfl⟩, s_word rfl fun H7 e7 => ⟨_, rfl, e'.trans e7⟩⟩), fun z => nomatch z⟩
      | delay =>
        exact refuse T.a_BadDelay (by rw [hr]; rfl) _ _ fun H' e' => ⟨true, T.X_BadDelay.m, fun _ x hx => .inr (.inr (.inl ⟨⟨rfl, rfl⟩, s_word rfl fun H7 e7 => ⟨_, rfl, e'.trans e7⟩⟩)), fun z => nomatch z⟩
      | apart =>
        exact refuse T.a_Apart (by rw [hr]; rfl) _ _ fun H' e' => ⟨true, T.X_Apart.m, fun _ x hx => .inr (.inr (.inr ⟨⟨rfl, rfl⟩, s_word rfl fun H7 e7 => ⟨_, rfl, e'.trans e7⟩⟩)), fun z => nomatch z⟩
      | fine =>
        obtain ⟨hc, hM, hDl, hW⟩ := ref_fine_inv hr
        obtain ⟨n', rfl⟩ : ∃ n' : Nat, m = (n' : Int) := ⟨m.toNat, by unfold BadC at hc; omega⟩
        have hW : WebOk n' (ws.map natW) := hW
        have hnw := nat_ways hM hDl
        refine .inl ⟨p, dx, Dh, n', ws.map natW, uh, rfl, sh, sl, by rw [← hnw]; exact st, hW, fun H' hWA hB _ => ⟨rfl, ?_⟩⟩
        have eF := back H' hB
        obtain ⟨dx', lw, li, vw, vi, w1, w2, w3, _⟩ := hWA
        rw [← hnw] at w3
        refine s_when (b := false) (et_or (a := false) (et_is (et_test (ev_op (ev_fld (ev_var rfl) w1 T.cl_Web T.na_many (webF_many n' lw li)) (ev_var rfl) (rv_ne rfl))) (by simp)) fun _ => et_test (ev_neI (ws := ws) (ev_fld (ev_var rfl) w1 T.cl_Web T.na_ways (webF_ways n' lw li)) (ev_var rfl) w2 w3 (eF _ _ hD5) (hT5.ex eF))) (fun z => by cases z) fun _ H7 e7 => ⟨_, rfl, eF.trans e7⟩
    rintro _ H6 ⟨r5, rfl, e6⟩
    refine q_asg (v := .str (wdOf (refOf m ws))) (ev_callV (ea_cons (ev_var rfl) (ea_cons (ev_var rfl) ea_nil)) fun H7 e7 Q E k => ⟨m, D, ws, us, rfl, (e6.trans e7) _ _ hD5, hT5.ex (e6.trans e7), by omega, k⟩) fun H7 e7 => ?_
    have e57 := e6.trans e7
    refine q_cut (M := fun σ' H' => σ' = [some (.ref a), some (.int m), some (.ref D), some (.ref Dh), some (.str (fw (refOf m ws))), r5, none, some (.str (fw (refOf m ws)))] ∧ Ex H5 H') ?_ ?_
    · generalize refOf m ws = r
      cases r with
      | count => exact s_when (b := true) (et_is (et_test (ev_op (ev_var rfl) ev_c (rv_ne rfl))) (by decide +kernel)) (fun _ H8 e8 => s_asg (ev_catS ev_c (ev_var rfl) (by decide +kernel)) fun H9 e9 => ⟨rfl, e57.trans (e8.trans e9)⟩) (fun z => by cases z)
      | meeting => exact s_when (b := true) (et_is (et_test (ev_op (ev_var rfl) ev_c (rv_ne rfl))) (by decide +kernel)) (fun _ H8 e8 => s_asg (ev_catS ev_c (ev_var rfl) (by decide +kernel)) fun H9 e9 => ⟨rfl, e57.trans (e8.trans e9)⟩) (fun z => by cases z)
      | delay => exact s_when (b := true) (et_is (et_test (ev_op (ev_var rfl) ev_c (rv_ne rfl))) (by decide +kernel)) (fun _ H8 e8 => s_asg (ev_catS ev_c (ev_var rfl) (by decide +kernel)) fun H9 e9 => ⟨rfl, e57.trans (e8.trans e9)⟩) (fun z => by cases z)
      | apart => exact s_when (b := true) (et_is (et_test (ev_op (ev_var rfl) ev_c (rv_ne rfl))) (by decide +kernel)) (fun _ H8 e8 => s_asg (ev_catS ev_c (ev_var rfl) (by decide +kernel)) fun H9 e9 => ⟨rfl, e57.trans (e8.trans e9)⟩) (fun z => by cases z)
      | fine => exact s_when (b := false) (et_is (et_test (ev_op (ev_var rfl) ev_c (rv_ne rfl))) (by decide +kernel)) (fun z => by cases z) (fun _ H8 e8 => ⟨rfl, e57.trans e8⟩)
    rintro _ H8 ⟨rfl, e8⟩
    exact s_ret (v := .bl true) (ev_is (ev_andV (a := true) (b := true) (ev_is (ev_op (ev_var rfl) (ev_var rfl) (rv_eq rfl)) (by simp)) fun _ => ev_eqI (ws := ws) (ev_var rfl) (ev_var rfl) (e8 _ _ h5) (t5.ex e8) (e8 _ _ hD5) (hT5.ex e8)) rfl) fun H9 _ => q H9
end
/-! ### what the top has written: the head -/
set_option maxHeartbeats 0
def fn : List He.DefD := [⟨("_wall", none), "_wall", "_wall", defArgs (top 0), defBody (top 0), defScope (top 0), [], []⟩, ⟨("come_to", none), "come_to", "come_to", defArgs (top 13), defBody (top 13), defScope (top 13), [], []⟩, ⟨("Web", some "__init__"), "__init__", "Web.__init__", defArgs (inClass (top 14) 0), defBody (inClass (top 14) 0), defScope (inClass (top 14) 0), [], []⟩, ⟨("Web", some "need_meeting"), "need_meeting", "Web.need_meeting", defArgs (inClass (top 14) 1), defBody (inClass (top 14) 1), defScope (inClass (top 14) 1), [], []⟩, ⟨("Web", some "into"), "into", "Web.into", defArgs (inClass (top 14) 2), defBody (inClass (top 14) 2), defScope (inClass (top 14) 2), [], []⟩, ⟨("Web", some "delay"), "delay", "Web.delay", defArgs (inClass (top 14) 3), defBody (inClass (top 14) 3), defScope (inClass (top 14) 3), [], []⟩, ⟨("Web", some "ahead"), "ahead", "Web.ahead", defArgs (inClass (top 14) 4), defBody (inClass (top 14) 4), defScope (inClass (top 14) 4), [], []⟩, ⟨("Web", some "turns"), "turns", "Web.turns", defArgs (inClass (top 14) 5), defBody (inClass (top 14) 5), defScope (inClass (top 14) 5), [], []⟩, ⟨("Web", some "turned"), "turned", "Web.turned", defArgs (inClass (top 14) 6), defBody (inClass (top 14) 6), defScope (inClass (top 14) 6), [], []⟩, ⟨("_law_cell_at", none), "_law_cell_at", "_law_cell_at", defArgs (top 16), defBody (top 16), defScope (top 16), [], []⟩, ⟨("_law_mixed", none), "_law_mixed", "_law_mixed", defArgs (top 17), defBody (top 17), defScope (top 17), [], []⟩, ⟨("_law_delay_by", none), "_law_delay_by", "_law_delay_by", defArgs (top 18), defBody (top 18), defScope (top 18), [], []⟩, ⟨("_law_many", none), "_law_many", "_law_many", defArgs (top 19), defBody (top 19), defScope (top 19), [], []⟩, ⟨("_law_ways", none), "_law_ways", "_law_ways", defArgs (top 20), defBody (top 20), defScope (top 20), [], []⟩, ⟨("_law_bent", none), "_law_bent", "_law_bent", defArgs (top 21), defBody (top 21), defScope (top 21), [], []⟩, ⟨("_law_met", none), "_law_met", "_law_met", defArgs (top 22), defBody (top 22), defScope (top 22), [], []⟩, ⟨("_law_due", none), "_law_due", "_law_due", defArgs (top 23), defBody (top 23), defScope (top 23), [], []⟩, ⟨("_law_word_of", none), "_law_word_of", "_law_word_of", defArgs (top 24), defBody (top 24), defScope (top 24), [], []⟩, ⟨("law", none), "law", "law", defArgs (top 25), defBody (top 25), defScope (top 25), [], []⟩]
def fa : List He.Fa := ([.glo "_wall", .glo "come_to", .glo "_law_cell_at", .glo "_law_mixed", .glo "_law_delay_by", .glo "_law_many", .glo "_law_ways", .glo "_law_bent", .glo "_law_met", .glo "_law_due", .glo "_law_word_of", .glo "law", .glo "PaceError", .glo "BadCount", .glo "NoMeeting", .glo "BadDelay", .glo "Apart", .glo "NoRing", .glo "BadPace", .glo "Web"] : List He.Fa) ++ ([.int "MOST_MEETINGS" 12, .int "MOST_WAYS" 60, .int "GREATEST" 9999, .free "ValueError", .free "isinstance", .free "len", .free "list", .free "max", .free "range", .free "sorted", .cls "Web", .mkr "Web", .noat "Web" "many", .noat "Web" "ways", .noat "Web" "inner", .meth "Web" "need_meeting", .meth "Web" "into", .meth "Web" "delay", .meth "Web" "ahead", .meth "Web" "turns"] : List He.Fa) ++ ([.meth "Web" "turned"] : List He.Fa)
def names : List PySem.Str := (["_wall", "__name__", "PaceError", "BadCount", "NoMeeting", "BadDelay", "Apart", "NoRing", "BadPace", "MOST_MEETINGS", "MOST_WAYS", "GREATEST", "come_to", "Web", "_law_cell_at", "_law_mixed", "_law_delay_by", "_law_many", "_law_ways", "_law_bent"] : List PySem.Str) ++ (["_law_met", "_law_due", "_law_word_of"] : List PySem.Str)
abbrev R : PySem.W.OpenRow := PySem.W.OpenLaw.row PySem.Challenge.rw_meanpace_k04_webs_refused
def tf : List He.Defn := [("_law_ways", none)]
def ex (K : PySem.W.Frag) : Bool := (excB K (He.ga K "BadCount") (He.ga K "PaceError") && (kitB1 K (He.ga K "BadCount") [((He.ga K "BadCount"), true), ((He.ga K "NoMeeting"), false), ((He.ga K "BadDelay"), false), ((He.ga K "Apart"), false), ((He.ga K "NoRing"), false), ((He.ga K "BadPace"), false)] && (excB K (He.ga K "NoMeeting") (He.ga K "PaceError") && (kitB1 K (He.ga K "NoMeeting") [((He.ga K "BadCount"), false), ((He.ga K "NoMeeting"), true), ((He.ga K "BadDelay"), false), ((He.ga K "Apart"), false), ((He.ga K "NoRing"), false), ((He.ga K "BadPace"), false)] && (excB K (He.ga K "BadDelay") (He.ga K "PaceError") && (kitB1 K (He.ga K "BadDelay") [((He.ga K "BadCount"), false), ((He.ga K "NoMeeting"), false), ((He.ga K "BadDelay"), true), ((He.ga K "Apart"), false), ((He.ga K "NoRing"), false), ((He.ga K "BadPace"), false)] && (excB K (He.ga K "Apart") (He.ga K "PaceError") && kitB1 K (He.ga K "Apart") [((He.ga K "BadCount"), false), ((He.ga K "NoMeeting"), false), ((He.ga K "BadDelay"), false), ((He.ga K "Apart"), true), ((He.ga K "NoRing"), false), ((He.ga K "BadPace"), false)])))))))
abbrev hk : PySem.W.Hook := He.hookX 5 fa fn [] tf ex
def ob (s : PySem.W.SharedT) : He.AlX := He.obsX 5 fa fn [] tf ex (HandSHeadRun.getT s)
theorem ob_eq (s : PySem.W.SharedT) : ob s = hk.obs s.abs := He.obsX_eq (HandSHeadRun.getT_eq s)
abbrev steps : Nat := 20000
theorem run (w : World) : HandSHeadRun.RunEq R (PySem.W.view R.prog [25]) hk ob 20000 names w := by
  intro os
  kernel_rfl
theorem txt_of {w : World} {h : Heap} {K : PySem.W.Frag} {mg : Str → Option Value} (X : K.In h) (G : h.Ns mainGlobals mg) (S : He.SaysX fa fn [] tf ex w h K) : ∃ T : Txt K mg, T.a_law = He.ga K "law" ∧ T.c_lw = (He.cT K ("_law_ways", none)).1 ∧ T.P_lw = (He.cT K ("_law_ways", none)).2 := by
  have D : He.SaysD fa fn K := S.t.d
  obtain ⟨d_0, F_0⟩ := D.def_ 0 rfl
  obtain ⟨d_1, F_1⟩ := D.def_ 1 rfl
  obtain ⟨d_2, F_2⟩ := D.def_ 2 rfl
  obtain ⟨d_3, F_3⟩ := D.def_ 3 rfl
  obtain ⟨d_4, F_4⟩ := D.def_ 4 rfl
  obtain ⟨d_5, F_5⟩ := D.def_ 5 rfl
  obtain ⟨d_6, F_6⟩ := D.def_ 6 rfl
  obtain ⟨d_7, F_7⟩ := D.def_ 7 rfl
  obtain ⟨d_8, F_8⟩ := D.def_ 8 rfl
  obtain ⟨d_9, F_9⟩ := D.def_ 9 rfl
  obtain ⟨d_10, F_10⟩ := D.def_ 10 rfl
  obtain ⟨d_11, F_11⟩ := D.def_ 11 rfl
  obtain ⟨d_12, F_12⟩ := D.def_ 12 rfl
  obtain ⟨d_13, F_13⟩ := D.def_ 13 rfl
  obtain ⟨d_14, F_14⟩ := D.def_ 14 rfl
  obtain ⟨d_15, F_15⟩ := D.def_ 15 rfl
  obtain ⟨d_16, F_16⟩ := D.def_ 16 rfl
  obtain ⟨d_17, F_17⟩ := D.def_ 17 rfl
  obtain ⟨d_18, F_18⟩ := D.def_ 18 rfl
  have m0 : ((excB K (He.ga K "BadCount") (He.ga K "PaceError") && (kitB1 K (He.ga K "BadCount") [((He.ga K "BadCount"), true), ((He.ga K "NoMeeting"), false), ((He.ga K "BadDelay"), false), ((He.ga K "Apart"), false), ((He.ga K "NoRing"), false), ((He.ga K "BadPace"), false)] && (excB K (He.ga K "NoMeeting") (He.ga K "PaceError") && (kitB1 K (He.ga K "NoMeeting") [((He.ga K "BadCount"), false), ((He.ga K "NoMeeting"), true), ((He.ga K "BadDelay"), false), ((He.ga K "Apart"), false), ((He.ga K "NoRing"), false), ((He.ga K "BadPace"), false)] && (excB K (He.ga K "BadDelay") (He.ga K "PaceError") && (kitB1 K (He.ga K "BadDelay") [((He.ga K "BadCount"), false), ((He.ga K "NoMeeting"), false), ((He.ga K "BadDelay"), true), ((He.ga K "Apart"), false), ((He.ga K "NoRing"), false), ((He.ga K "BadPace"), false)] && (excB K (He.ga K "Apart") (He.ga K "PaceError") && kitB1 K (He.ga K "Apart") [((He.ga K "BadCount"), false), ((He.ga K "NoMeeting"), false), ((He.ga K "BadDelay"), false), ((He.ga K "Apart"), true), ((He.ga K "NoRing"), false), ((He.ga K "BadPace"), false)])))))))) = true := S.more
  obtain ⟨x0, m1⟩ := He.ba m0
  obtain ⟨x1, m2⟩ := He.ba m1
  obtain ⟨x2, m3⟩ := He.ba m2
  obtain ⟨x3, m4⟩ := He.ba m3
  obtain ⟨x4, m5⟩ := He.ba m4
  obtain ⟨x5, m6⟩ := He.ba m5
  obtain ⟨x6, m7⟩ := He.ba m6
  have x7 := m7
  exact ⟨{
    n_ValueError := He.free_ok X G (D.fact 23 rfl)
    n_isinstance := He.free_ok X G (D.fact 24 rfl)
    n_len := He.free_ok X G (D.fact 25 rfl)
    n_list := He.free_ok X G (D.fact 26 rfl)
    n_max := He.free_ok X G (D.fact 27 rfl)
    n_range := He.free_ok X G (D.fact 28 rfl)
    n_sorted := He.free_ok X G (D.fact 29 rfl)
    g_MOST_MEETINGS := He.int_ok X G (D.fact 20 rfl)
    g_MOST_WAYS := He.int_ok X G (D.fact 21 rfl)
    g_GREATEST := He.int_ok X G (D.fact 22 rfl)
    a_PaceError := He.ga K "PaceError"
    g_PaceError := He.glo_ok X G (D.fact 12 rfl)
    a_BadCount := He.ga K "BadCount"
    g_BadCount := He.glo_ok X G (D.fact 13 rfl)
    a_NoMeeting := He.ga K "NoMeeting"
    g_NoMeeting := He.glo_ok X G (D.fact 14 rfl)
    a_BadDelay := He.ga K "BadDelay"
    g_BadDelay := He.glo_ok X G (D.fact 15 rfl)
    a_Apart := He.ga K "Apart"
    g_Apart := He.glo_ok X G (D.fact 16 rfl)
    a_NoRing := He.ga K "NoRing"
    g_NoRing := He.glo_ok X G (D.fact 17 rfl)
    a_BadPace := He.ga K "BadPace"
    g_BadPace := He.glo_ok X G (D.fact 18 rfl)
    a_Web := He.ga K "Web"
    g_Web := He.glo_ok X G (D.fact 19 rfl)
    a_wall := He.ga K "_wall"
    d_wall := d_0
    F_wall := F_0
    b_wall := (FunD.bindsN F_0 fun _ _ _ _ _ _ us hl => match us, hl with | [_], _ => rfl)
    g_wall := He.glo_ok X G (D.fact 0 rfl)
    a_come_to := He.ga K "come_to"
    d_come_to := d_1
    F_come_to := F_1
    b_come_to := (FunD.bindsN F_1 fun _ _ _ _ _ _ us hl => match us, hl with | [_, _], _ => rfl)
    g_come_to := He.glo_ok X G (D.fact 1 rfl)
    a_Web_init := He.ma K (He.ga K "Web") "__init__"
    d_Web_init := d_2
    F_Web_init := F_2
    b_Web_init := (FunD.bindsN F_2 fun _ _ _ _ _ _ us hl => match us, hl with | [_, _, _], _ => rfl)
    a_Web_need_meeting := He.ma K (He.ga K "Web") "need_meeting"
    d_Web_need_meeting := d_3
    F_Web_need_meeting := F_3
    b_Web_need_meeting := (FunD.bindsN F_3 fun _ _ _ _ _ _ us hl => match us, hl with | [_, _], _ => rfl)
    m_Web_need_meeting := He.meth_ok (D.fact 35 rfl)
    a_Web_into := He.ma K (He.ga K "Web") "into"
    d_Web_into := d_4
    F_Web_into := F_4
    b_Web_into := (FunD.bindsN F_4 fun _ _ _ _ _ _ us hl => match us, hl with | [_, _], _ => rfl)
    m_Web_into := He.meth_ok (D.fact 36 rfl)
    a_Web_delay := He.ma K (He.ga K "Web") "delay"
    d_Web_delay := d_5
    F_Web_delay := F_5
    b_Web_delay := (FunD.bindsN F_5 fun _ _ _ _ _ _ us hl => match us, hl with | [_, _, _], _ => rfl)
    m_Web_delay := He.meth_ok (D.fact 37 rfl)
    a_Web_ahead := He.ma K (He.ga K "Web") "ahead"
    d_Web_ahead := d_6
    F_Web_ahead := F_6
    b_Web_ahead := (FunD.bindsN F_6 fun _ _ _ _ _ _ us hl => match us, hl with | [_, _], _ => rfl)
    m_Web_ahead := He.meth_ok (D.fact 38 rfl)
    a_Web_turns := He.ma K (He.ga K "Web") "turns"
    d_Web_turns := d_7
    F_Web_turns := F_7
    b_Web_turns := (FunD.bindsN F_7 fun _ _ _ _ _ _ us hl => match us, hl with | [_, _, _], _ => rfl)
    m_Web_turns := He.meth_ok (D.fact 39 rfl)
    a_Web_turned := He.ma K (He.ga K "Web") "turned"
    d_Web_turned := d_8
    F_Web_turned := F_8
    b_Web_turned := (FunD.bindsN F_8 fun _ _ _ _ _ _ us hl => match us, hl with | [_], _ => rfl)
    m_Web_turned := He.meth_ok (D.fact 40 rfl)
    a_law_cell_at := He.ga K "_law_cell_at"
    d_law_cell_at := d_9
    F_law_cell_at := F_9
    b_law_cell_at := (FunD.bindsN F_9 fun _ _ _ _ _ _ us hl => match us, hl with | [_, _], _ => rfl)
    g_law_cell_at := He.glo_ok X G (D.fact 2 rfl)
    a_law_mixed := He.ga K "_law_mixed"
    d_law_mixed := d_10
    F_law_mixed := F_10
    b_law_mixed := (FunD.bindsN F_10 fun _ _ _ _ _ _ us hl => match us, hl with | [_, _], _ => rfl)
    g_law_mixed := He.glo_ok X G (D.fact 3 rfl)
    a_law_delay_by := He.ga K "_law_delay_by"
    d_law_delay_by := d_11
    F_law_delay_by := F_11
    b_law_delay_by := (FunD.bindsN F_11 fun _ _ _ _ _ _ us hl => match us, hl with | [_], _ => rfl)
    g_law_delay_by := He.glo_ok X G (D.fact 4 rfl)
    a_law_many := He.ga K "_law_many"
    d_law_many := d_12
    F_law_many := F_12
    b_law_many := (FunD.bindsN F_12 fun _ _ _ _ _ _ us hl => match us, hl with | [_], _ => rfl)
    g_law_many := He.glo_ok X G (D.fact 5 rfl)
    a_law_ways := He.ga K "_law_ways"
    d_law_ways := d_13
    F_law_ways := F_13
    b_law_ways := (FunD.bindsN F_13 fun _ _ _ _ _ _ us hl => match us, hl with | [_, _], _ => rfl)
    g_law_ways := He.glo_ok X G (D.fact 6 rfl)
    a_law_bent := He.ga K "_law_bent"
    d_law_bent := d_14
    F_law_bent := F_14
    b_law_bent := (FunD.bindsN F_14 fun _ _ _ _ _ _ us hl => match us, hl with | [_, _, _], _ => rfl)
    g_law_bent := He.glo_ok X G (D.fact 7 rfl)
    a_law_met := He.ga K "_law_met"
    d_law_met := d_15
    F_law_met := F_15
    b_law_met := (FunD.bindsN F_15 fun _ _ _ _ _ _ us hl => match us, hl with | [_, _], _ => rfl)
    g_law_met := He.glo_ok X G (D.fact 8 rfl)
    a_law_due := He.ga K "_law_due"
    d_law_due := d_16
    F_law_due := F_16
    b_law_due := (FunD.bindsN F_16 fun _ _ _ _ _ _ us hl => match us, hl with | [_, _], _ => rfl)
    g_law_due := He.glo_ok X G (D.fact 9 rfl)
    a_law_word_of := He.ga K "_law_word_of"
    d_law_word_of := d_17
    F_law_word_of := F_17
    b_law_word_of := (FunD.bindsN F_17 fun _ _ _ _ _ _ us hl => match us, hl with | [_], _ => rfl)
    g_law_word_of := He.glo_ok X G (D.fact 10 rfl)
    a_law := He.ga K "law"
    d_law := d_18
    F_law := F_18
    b_law := (FunD.bindsN F_18 fun _ _ _ _ _ _ us hl => match us, hl with | [_], _ => rfl)
    g_law := He.glo_ok X G (D.fact 11 rfl)
    c_lw := (He.cT K ("_law_ways", none)).1
    P_lw := (He.cT K ("_law_ways", none)).2
    code_lw := code_of (p := ("_law_ways", none)) F_13
    cl_Web := He.cls_ok (D.fact 30 rfl)
    M_Web := He.mkr_ok (D.fact 31 rfl)
    na_many := He.noat_ok (D.fact 32 rfl)
    na_ways := He.noat_ok (D.fact 33 rfl)
    na_inner := He.noat_ok (D.fact 34 rfl)
    X_BadCount := excB_ok x0
    kit_BadCount := kitB_ok x1
    X_NoMeeting := excB_ok x2
    kit_NoMeeting := kitB_ok x3
    X_BadDelay := excB_ok x4
    kit_BadDelay := kitB_ok x5
    X_Apart := excB_ok x6
    kit_Apart := kitB_ok x7 }, rfl, rfl, rfl⟩

theorem law_at {w : World} {h : Heap} {K : PySem.W.Frag} {mg : Str → Option Value} (T : Txt K mg) (S : He.SaysX fa fn [] tf ex w h K) (KX : K.In h) (ec : T.c_lw = (He.cT K ("_law_ways", none)).1) (eP : T.P_lw = (He.cT K ("_law_ways", none)).2) :
    LamX.LawAtS PySem.Challenge.rw_meanpace_k04_webs_refused w K L2.CX0 4 63 "_law_script" mg T.a_law h := by
  have hm : (("_law_ways", none) : He.Defn) ∈ tf := List.mem_cons_self
  refine ⟨T.d_law, [(T.c_lw, T.P_lw)], sp_law K T.P_lw, fun p hp => ?_, fun p hp => ?_, fun p hp => ?_, ?_, fun H a ns hl hbits hH hS => ⟨a, ns, rfl, hS, fun p hp => ?_, fun _ => rfl⟩, fun base hK hG hB => ok_law T (hB _ List.mem_cons_self)⟩
  · rw [List.mem_singleton.mp hp]
    show h.get? T.P_lw = _
    rw [eP]
    exact S.empty _ hm
  · rw [List.mem_singleton.mp hp]
    show K.lookup T.P_lw = _
    rw [eP]
    exact S.out _ hm
  · rw [List.mem_singleton.mp hp]
    show PySem.W.CodeHd h T.c_lw T.P_lw
    rw [eP, ec]
    exact PySem.W.codeHd_of_K KX (S.hd _ hm)
  · have b := FunD.bindsA (ps := ["_law_script"]) T.F_law fun _ _ _ _ _ _ us hl => match us, hl with | [_], _ => rfl
    exact fun s v => b s [v] rfl
  · rw [List.mem_singleton.mp hp]
    exact LamX.TabS.nil (hH _ List.mem_cons_self)
end MP
open PySem PySem.W PySem.Calls PyProof.Rows
theorem PySem.Challenge.cw_meanpace_k04_webs_refused_holds : PySem.Challenge.rw_meanpace_k04_webs_refused.Holds := by
  w_on; o_law
  refine HandSHeadRun.head_any (r := OpenLaw.row PySem.Challenge.rw_meanpace_k04_webs_refused) (q := view (OpenLaw.row PySem.Challenge.rw_meanpace_k04_webs_refused).prog [25]) (H := MP.hk) (ob := MP.ob) (M := MP.steps) (loose := MP.names) (d := HandSHeadRun.topDef (OpenLaw.row PySem.Challenge.rw_meanpace_k04_webs_refused).prog 25) (kwd := []) MP.ob_eq
    (by kernel_rfl) (fun s => by kernel_rfl) MP.run (by kernel_rfl) (by kernel_rfl) (by kernel_rfl) (by rfl) (by first | assumption | decide +kernel) (by decide +kernel) ⟨rfl, rfl, rfl, rfl, rfl, by decide +kernel⟩ ?hw ?hc
  case hw => w_witness2
  case hc =>
    refine LamX.walk_ofTsE (l := PySem.Challenge.rw_meanpace_k04_webs_refused) (n := 63) (k := 4) (x := "_law_script") (CX := fun _ => L2.CX0) rfl (by decide) (by kernel_rfl) ⟨rfl, by decide, by decide⟩ ?F (fun _ _ _ _ _ z => z)
    intro w mg fa h Y G hmg0
    obtain ⟨K, KX, S⟩ := Y
    have hmg : mg ("law" : PySem.Str) = some (.ref fa) := by
      have e : (HandSHeadRun.topDef (OpenLaw.row PySem.Challenge.rw_meanpace_k04_webs_refused).prog 25).name = ("law" : PySem.Str) := by kernel_rfl
      rw [← e]
      exact hmg0
    obtain ⟨T, _, ec, eP⟩ := MP.txt_of KX G S
    have ea := hmg.symm.trans T.g_law
    cases ea
    exact ⟨K, KX, MP.law_at T S KX ec eP⟩
#print axioms PySem.Challenge.cw_meanpace_k04_webs_refused_holds
