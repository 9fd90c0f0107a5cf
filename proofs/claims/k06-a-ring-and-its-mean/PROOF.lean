import PyProof.Rows.All
import Wide.All
import OpenK.AllK
import Wide.FinOn
import KE.KStateDown
import KE.SortKeyHeap
import KE.KDictDisplayH
import Lean
import HandS.ForMost
import HandS.Zip
import HandS.Rev
import HandS.SortKw
import HandS.Lambda
import HandS.EndTab
import HandS.Conv
import HandS.Sort
import HandS.Defaults
import HandS.IsInst
import HandS.Evl
import HandS.Steps
import HandS.Wide
import HandS.Exc
import HandS.Head0
import HandS.Head1
import HandS.Head2
import HandS.HeadHook1
import HandS.HeadHook2
import HandS.HeadHook3
import HandS.HeadHook4
import HandS.HeadWalk
import HandS.ExcOwn
import HandS.ExcCtx
import HandS.ExcIs
import HandS.Hot
import HandS.HotCalls
import PySem.Challenge.RW_meanpace_k06_a_ring_and_its_mean
set_option Elab.async false
set_option linter.all false
set_option maxRecDepth 100000

set_option maxHeartbeats 4000000
/-! ### the plain law: ways, webs of one piece -/
namespace MP
/-- from, to, delay -/
abbrev Way := Nat × Nat × Nat
def edges (ws : List Way) : List (Nat × Nat) := ws.map fun w => (w.1, w.2.1)
def redges (ws : List Way) : List (Nat × Nat) := ws.map fun w => (w.2.1, w.1)
inductive Reach (es : List (Nat × Nat)) : Nat → Nat → Prop
  | refl (a : Nat) : Reach es a a
  | step {a b c : Nat} : Reach es a b → (b, c) ∈ es → Reach es a c
theorem Reach.trans {es : List (Nat × Nat)} {a b c : Nat} (h : Reach es a b) (k : Reach es b c) : Reach es a c := by
  induction k with
  | refl => exact h
  | step _ e ih => exact .step ih e
theorem Reach.one {es : List (Nat × Nat)} {a b : Nat} (e : (a, b) ∈ es) : Reach es a b := .step (.refl a) e
theorem Reach.mono {es fs : List (Nat × Nat)} {a b : Nat} (h : Reach es a b) (k : ∀ e ∈ es, e ∈ fs) : Reach fs a b := by
  induction h with
  | refl => exact .refl _
  | step _ e ih => exact .step ih (k _ e)
theorem mem_edges {ws : List Way} {a b : Nat} : (a, b) ∈ edges ws ↔ ∃ d, (a, b, d) ∈ ws := by
  unfold edges
  rw [List.mem_map]
  constructor
  · rintro ⟨⟨x, y, d⟩, h, e⟩
    cases e
    exact ⟨d, h⟩
  · rintro ⟨d, h⟩
    exact ⟨_, h, rfl⟩
theorem mem_redges {ws : List Way} {a b : Nat} : (a, b) ∈ redges ws ↔ ∃ d, (b, a, d) ∈ ws := by
  unfold redges
  rw [List.mem_map]
  constructor
  · rintro ⟨⟨x, y, d⟩, h, e⟩
    cases e
    exact ⟨d, h⟩
  · rintro ⟨d, h⟩
    exact ⟨_, h, rfl⟩
theorem mem_re {ws : List Way} {a b : Nat} : (a, b) ∈ redges ws ↔ (b, a) ∈ edges ws := by
  rw [mem_edges, mem_redges]
theorem Reach.rev {ws : List Way} {a b : Nat} (h : Reach (redges ws) a b) : Reach (edges ws) b a := by
  induction h with
  | refl => exact .refl _
  | step _ e ih => exact (Reach.one (mem_re.mp e)).trans ih
theorem Reach.rev' {ws : List Way} {a b : Nat} (h : Reach (edges ws) a b) : Reach (redges ws) b a := by
  induction h with
  | refl => exact .refl _
  | step _ e ih => exact (Reach.one (mem_re.mpr e)).trans ih
/-- a web as the document has it -/
structure WebOk (n : Nat) (ws : List Way) : Prop where
  n1 : 1 ≤ n
  n12 : n ≤ 12
  len : ws.length ≤ 60
  ends : ∀ w ∈ ws, w.1 < n ∧ w.2.1 < n
  del : ∀ w ∈ ws, w.2.2 ≤ 9999
  ne : ws ≠ []
  fwd : ∀ m, m < n → Reach (edges ws) 0 m
  bwd : ∀ m, m < n → Reach (redges ws) 0 m
/-- what leads to m, in order: from where, with what delay -/
def inn (ws : List Way) (m : Nat) : List (Nat × Nat) := (ws.filter fun w => decide (w.2.1 = m)).map fun w => (w.1, w.2.2)
theorem mem_inn {ws : List Way} {m a d : Nat} : (a, d) ∈ inn ws m ↔ (a, m, d) ∈ ws := by
  unfold inn
  rw [List.mem_map]
  constructor
  · rintro ⟨⟨x, y, z⟩, h, e⟩
    cases e
    obtain ⟨h1, h2⟩ := List.mem_filter.mp h
    obtain rfl := of_decide_eq_true h2
    exact h1
  · intro h
    exact ⟨_, List.mem_filter.mpr ⟨h, decide_eq_true rfl⟩, rfl⟩
theorem WebOk.all {n : Nat} {ws : List Way} (h : WebOk n ws) {a b : Nat} (ha : a < n) (hb : b < n) : Reach (edges ws) a b := (h.bwd a ha).rev.trans (h.fwd b hb)
/-- some way leads to each meeting -/
theorem WebOk.inn_ne {n : Nat} {ws : List Way} (h : WebOk n ws) {m : Nat} (hm : m < n) : inn ws m ≠ [] := by
  have key : ∃ a d, (a, m, d) ∈ ws := by
    by_cases h1 : n = 1
    · obtain ⟨w, hw⟩ := List.exists_mem_of_ne_nil _ h.ne
      obtain ⟨x, y, d⟩ := w
      have := h.ends _ hw
      have e1 : y = m := by
        have := this.2
        simp only at this
        omega
      rw [e1] at hw
      exact ⟨x, d, hw⟩
    · obtain ⟨a, ha, hne⟩ : ∃ a, a < n ∧ a ≠ m := by
        by_cases h0 : m = 0
        · exact ⟨1, by have := h.n1; omega, by omega⟩
        · exact ⟨0, by have := h.n1; omega, by omega⟩
      have r := h.all ha hm
      cases r with
      | refl => exact absurd rfl hne
      | step _ e =>
        obtain ⟨d, hd⟩ := mem_edges.mp e
        exact ⟨_, d, hd⟩
  obtain ⟨a, d, hd⟩ := key
  intro z
  have := mem_inn.mpr hd
  rw [z] at this
  cases this
theorem inn_lt {n : Nat} {ws : List Way} (h : WebOk n ws) {m : Nat} {p : Nat × Nat} (hp : p ∈ inn ws m) : p.1 < n ∧ m < n ∧ p.2 ≤ 9999 := by
  obtain ⟨a, d⟩ := p
  have hw := mem_inn.mp hp
  exact ⟨(h.ends _ hw).1, (h.ends _ hw).2, h.del _ hw⟩
theorem inn_len (ws : List Way) (m : Nat) : (inn ws m).length ≤ ws.length := by
  unfold inn
  rw [List.length_map]
  exact List.length_filter_le _ _
/-! the web turned about -/
def turn (ws : List Way) : List Way := ws.map fun w => (w.2.1, w.1, w.2.2)
theorem edges_turn (ws : List Way) : edges (turn ws) = redges ws := by
  unfold edges turn redges
  rw [List.map_map]
  rfl
theorem redges_turn (ws : List Way) : redges (turn ws) = edges ws := by
  unfold edges turn redges
  rw [List.map_map]
  rfl
theorem turn_turn (ws : List Way) : turn (turn ws) = ws := by
  unfold turn
  rw [List.map_map]
  exact List.map_id' ws
theorem WebOk.turn {n : Nat} {ws : List Way} (h : WebOk n ws) : WebOk n (turn ws) := by
  refine ⟨h.n1, h.n12, by unfold MP.turn; rw [List.length_map]; exact h.len, fun w hw => ?_, fun w hw => ?_, ?_, by rw [edges_turn]; exact h.bwd, by rw [redges_turn]; exact h.fwd⟩
  · obtain ⟨v, hv, rfl⟩ := List.mem_map.mp hw
    exact ⟨(h.ends v hv).2, (h.ends v hv).1⟩
  · obtain ⟨v, hv, rfl⟩ := List.mem_map.mp hw
    exact h.del v hv
  · intro z
    exact h.ne (List.map_eq_nil_iff.mp z)
/-! ### what come_to counts -/
def ctIn (x : Nat) (es : List (Nat × Nat)) (met : List Nat) : List Nat := es.foldl (fun met e => if e.1 = x ∧ e.2 ∉ met then met ++ [e.2] else met) met
def ctStep (es : List (Nat × Nat)) (met : List Nat) (i : Nat) : List Nat := if i < met.length then ctIn (met.getD i 0) es met else met
def comeTo (n : Nat) (es : List (Nat × Nat)) : List Nat := (List.range n).foldl (ctStep es) [0]
theorem ctIn_cons (x : Nat) (e : Nat × Nat) (es : List (Nat × Nat)) (met : List Nat) : ctIn x (e :: es) met = ctIn x es (if e.1 = x ∧ e.2 ∉ met then met ++ [e.2] else met) := rfl
/-- what a turn of the inner loop does -/
theorem ctIn_ok (x : Nat) : ∀ (es : List (Nat × Nat)) (met : List Nat), met.Nodup → (ctIn x es met).Nodup ∧ (∃ r, ctIn x es met = met ++ r ∧ ∀ b ∈ r, (x, b) ∈ es) ∧ ∀ e ∈ es, e.1 = x → e.2 ∈ ctIn x es met
  | [], met, h => ⟨h, ⟨[], by rw [List.append_nil]; rfl, by simp⟩, by simp⟩
  | e :: es, met, h => by
    rw [ctIn_cons]
    by_cases hc : e.1 = x ∧ e.2 ∉ met
    · rw [if_pos hc]
      have h2 : (met ++ [e.2]).Nodup := List.nodup_append.mpr ⟨h, by simp, fun a ha b hb => by
        rintro rfl
        exact hc.2 (by rw [List.mem_singleton.mp hb] at ha; exact ha)⟩
      obtain ⟨i1, ⟨r, i2, i3⟩, i4⟩ := ctIn_ok x es (met ++ [e.2]) h2
      refine ⟨i1, ⟨e.2 :: r, by rw [i2, List.append_assoc]; rfl, fun b hb => ?_⟩, fun d hd hx => ?_⟩
      · rcases List.mem_cons.mp hb with z | z
        · rw [z, ← hc.1]
          exact List.mem_cons_self
        · exact List.mem_cons_of_mem _ (i3 b z)
      · rcases List.mem_cons.mp hd with z | z
        · rw [z, i2]
          exact List.mem_append_left _ (List.mem_append_right _ (by simp))
        · exact i4 d z hx
    · rw [if_neg hc]
      obtain ⟨i1, ⟨r, i2, i3⟩, i4⟩ := ctIn_ok x es met h
      refine ⟨i1, ⟨r, i2, fun b hb => List.mem_cons_of_mem _ (i3 b hb)⟩, fun d hd hx => ?_⟩
      rcases List.mem_cons.mp hd with z | z
      · rw [z] at hx ⊢
        have : e.2 ∈ met := Classical.not_not.mp fun q => hc ⟨hx, q⟩
        rw [i2]
        exact List.mem_append_left _ this
      · exact i4 d z hx
/-- behind i turns: met once each, all come to, the first i closed -/
structure CtOk (es : List (Nat × Nat)) (i : Nat) (met : List Nat) : Prop where
  nd : met.Nodup
  zero : met[0]? = some 0
  reach : ∀ m ∈ met, Reach es 0 m
  closed : ∀ j x, j < i → met[j]? = some x → ∀ e ∈ es, e.1 = x → e.2 ∈ met
theorem ctStep_ok {es : List (Nat × Nat)} {i : Nat} {met : List Nat} (h : CtOk es i met) : CtOk es (i + 1) (ctStep es met i) := by
  unfold ctStep
  by_cases hi : i < met.length
  · rw [if_pos hi]
    obtain ⟨x, hx⟩ : ∃ x, met[i]? = some x := ⟨met[i], List.getElem?_eq_getElem hi⟩
    have ex : met.getD i 0 = x := by rw [List.getD_eq_getElem?_getD, hx]; rfl
    rw [ex]
    obtain ⟨i1, ⟨r, i2, i3⟩, i4⟩ := ctIn_ok x es met h.nd
    have pre : ∀ j y, met[j]? = some y → (ctIn x es met)[j]? = some y := fun j y e => by
      rw [i2, List.getElem?_append_left (List.getElem?_eq_some_iff.mp e).1]
      exact e
    refine ⟨i1, pre _ _ h.zero, fun m hm => ?_, fun j y hj hy e he hey => ?_⟩
    · rw [i2] at hm
      rcases List.mem_append.mp hm with z | z
      · exact h.reach m z
      · exact .step (h.reach x (List.mem_of_getElem? hx)) (i3 m z)
    · by_cases hji : j = i
      · subst hji
        have : y = x := by
          rw [pre _ _ hx] at hy
          exact (Option.some.inj hy).symm
        exact i4 e he (hey.trans this)
      · have hj2 : j < i := by omega
        have hjl : j < met.length := by omega
        have hy2 : met[j]? = some y := by
          rw [i2, List.getElem?_append_left hjl] at hy
          exact hy
        have := h.closed j y hj2 hy2 e he hey
        rw [i2]
        exact List.mem_append_left _ this
  · rw [if_neg hi]
    refine ⟨h.nd, h.zero, h.reach, fun j y hj hy => ?_⟩
    have := (List.getElem?_eq_some_iff.mp hy).1
    exact h.closed j y (by omega) hy
theorem ct_fold {es : List (Nat × Nat)} (n : Nat) : CtOk es n ((List.range n).foldl (ctStep es) [0]) := by
  induction n with
  | zero => exact ⟨by simp, rfl, fun m hm => by rw [List.mem_singleton.mp hm]; exact .refl 0, fun j x hj => by omega⟩
  | succ n ih =>
    rw [List.range_succ, List.foldl_append]
    exact ctStep_ok ih
theorem nodup_lt {l : List Nat} {n : Nat} (h : l.Nodup) (hl : ∀ m ∈ l, m < n) : l.length ≤ n := by
  have := List.Nodup.length_le_of_subset (l₁ := l) (l₂ := List.range n) h (fun m hm => List.mem_range.mpr (hl m hm))
  rwa [List.length_range] at this
/-- all that can be come to, once each -/
theorem comeTo_mem {n : Nat} {es : List (Nat × Nat)} (hn : 1 ≤ n) (he : ∀ e ∈ es, e.1 < n ∧ e.2 < n) : (comeTo n es).Nodup ∧ ∀ m, m ∈ comeTo n es ↔ Reach es 0 m := by
  have c : CtOk es n (comeTo n es) := ct_fold n
  have lt : ∀ m, Reach es 0 m → m < n := fun m r => by
    cases r with
    | refl => omega
    | step _ e => exact (he _ e).2
  have hl : (comeTo n es).length ≤ n := nodup_lt c.nd fun m hm => lt m (c.reach m hm)
  refine ⟨c.nd, fun m => ⟨c.reach m, fun r => ?_⟩⟩
  induction r with
  | refl => exact List.mem_of_getElem? c.zero
  | step _ e ih =>
    obtain ⟨j, hj⟩ := List.mem_iff_getElem?.mp ih
    exact c.closed j _ (by have := (List.getElem?_eq_some_iff.mp hj).1; omega) hj _ e rfl
theorem comeTo_all {n : Nat} {es : List (Nat × Nat)} (hn : 1 ≤ n) (he : ∀ e ∈ es, e.1 < n ∧ e.2 < n) (h : ∀ m, m < n → Reach es 0 m) : (comeTo n es).length = n := by
  obtain ⟨nd, hm⟩ := comeTo_mem hn he
  refine Nat.le_antisymm (nodup_lt nd fun m hmm => ?_) ?_
  · have r := (hm m).mp hmm
    cases r with
    | refl => omega
    | step _ e => exact (he _ e).2
  · have := List.Nodup.length_le_of_subset (l₁ := List.range n) (l₂ := comeTo n es) List.nodup_range (fun m hmm => (hm m).mpr (h m (List.mem_range.mp hmm)))
    rwa [List.length_range] at this
end MP
namespace MP
open PySem PySem.Spec PyProof.Rows L2 Evl
/-! ### the layer: a product of any two fitting ints; a def whose body raises nothing -/
theorem op_mulG {X : Cx} : OpR X (binaryOp .Mult) (rI IntMulOk fun i j => .int (i * j)) := opI fun _ _ _ _ _ _ _ hc q => mul_int q hc
theorem okN {P : Program} {w : World} {K : PySem.W.Frag} {mg : Str → Option Value} {base : Heap} {x qual : Str} {params : Arguments} {body : List Stmt} {scope : Scope} {dvs : List V} {kws : List (Str × V)} {f : Addr} {fd : FuncData}
    {CX : CXT} {N ps : List Str} {k : Nat} {sp : Sp} (F : FunD K x qual params body scope dvs kws f fd) (S : FnScope N ps scope) (len : ∀ vs H Q E, sp vs H Q E → vs.length = ps.length)
    (hbody : ∀ (cdv : Value) (A : Around) (outer : List Env) (s : Shared) (H : Hp) (vs : List V) (Q : VK) (E : XK), Room k (A.deeper (envOfC qual scope s.heap.objs.size f cdv)) → sp vs H Q E →
      ∃ t, PSs (cxOf CX P w K mg base N qual scope f cdv A outer s H E).nox body t ∧ t { nx := fun _ H' => Q .non H', rt := Q } (start N vs) H) : FnOk P w K mg base CX (k + 1) f fd ps sp :=
  F.ok S len fun cdv A outer s H vs Q E hr h => by
    obtain ⟨t, a, b⟩ := hbody cdv A outer s H vs Q E hr h
    exact ⟨t, a.nox, b⟩
def RetU (xs : List V) (H : Hp) (Q : VK) : Prop := ∀ p H2, H p = none → Ex H H2 → H2 p = some (.tup xs) → Q (.ref p) H2
theorem RetU.go {xs : List V} {H H' : Hp} {Q : VK} (k : RetU xs H Q) (e : Ex H H') {p : Addr} {H2 : Hp} (hp : H' p = none) (e2 : Ex H' H2) (h : H2 p = some (.tup xs)) : Q (.ref p) H2 := k p H2 (fresh_back e hp) (e.trans e2) h
/-- what a function does, by values: a value; a new list; a new tuple -/
theorem spv_of {sp : Sp} {vs : List V} {H : Hp} {z : V} (h : ∀ H1, Ex H H1 → ∀ Q E, RetV z H1 Q → sp vs H1 Q E) : SpV sp vs H z := fun H1 e Q q E => h H1 e Q E q
theorem ev_callV {σ : L2.St} {H : Hp} {z : V} {sp : Sp} {vs : List V} {E : XK} {ta : TA} (h : EvA ta σ H vs) (hs : ∀ H1, Ex H H1 → ∀ Q E, RetV z H1 Q → sp vs H1 Q E) : Ev (tCall sp [] E ta) σ H z :=
  ev_call (dvs := []) h (by rw [List.append_nil]; exact spv_of hs)
theorem eu_callU {σ : L2.St} {H : Hp} {xs : List V} {sp : Sp} {vs : List V} {E : XK} {ta : TA} (h : EvA ta σ H vs) (hs : ∀ H1, Ex H H1 → ∀ Q E, RetU xs H1 Q → sp vs H1 Q E) : EvU (tCall sp [] E ta) σ H xs := fun H1 e Q q =>
  h H1 e _ fun H2 e2 => by
    show sp (vs ++ []) H2 Q E
    rw [List.append_nil]
    exact hs H2 (e.trans e2) Q E fun p H3 hp e3 h3 => q p H3 (fresh_back e2 hp) (e2.trans e3) h3
theorem el_callL {σ : L2.St} {H : Hp} {xs : List V} {sp : Sp} {vs : List V} {E : XK} {ta : TA} (h : EvA ta σ H vs) (hs : ∀ H1, Ex H H1 → ∀ Q E, RetL xs H1 Q → sp vs H1 Q E) : EvL (tCall sp [] E ta) σ H xs := fun H1 e Q q =>
  h H1 e _ fun H2 e2 => by
    show sp (vs ++ []) H2 Q E
    rw [List.append_nil]
    exact hs H2 (e.trans e2) Q E fun p H3 hp e3 h3 => q p H3 (fresh_back e2 hp) (e2.trans e3) h3
theorem mulok {i j : Int} (a b : Nat) (ha : i.natAbs < 2 ^ a) (hb : j.natAbs < 2 ^ b) (h0 : 0 < a := by decide) (h1 : 0 < b := by decide) (h : a + b ≤ 1000000 := by decide) : IntMulOk i j := (wide_mul ha hb h0 h1 h).ok
theorem ev_lenS {K : PySem.W.Frag} {σ : L2.St} {H : Hp} {ta : TE} {p : Addr} {xs : List V} (ha : Ev ta σ H (.ref p)) (h : SqL K H p xs ∨ SqT K H p xs) : Ev (tCB (rLenS K) (tCons ta tNil)) σ H (.int (xs.length : Int)) := fun H1 e Q q =>
  ha H1 e _ fun H2 e2 => ⟨p, xs, rfl, h.imp (ex_l (e.trans e2)) (ex_t (e.trans e2)), q H2 e2⟩
/-- isinstance(x, a built-in class) -/
theorem ev_isi {K : PySem.W.Frag} {σ : L2.St} {H : Hp} {ta : TE} {v : V} {n : String} {t : Value} {b : Bool} (ha : Ev ta σ H v) (ty : ∀ H1, Ex H H1 → TyX K H1 v t) (e : PySem.W.kitOne K t (.type n) = some b) : Ev (tCB (rIsi K) (tCons ta (tCons (tC (.ty n)) tNil))) σ H (.bl b) := fun H1 e1 Q q =>
  ha H1 e1 _ fun H2 e2 => ⟨v, .ty n, t, .type n, b, rfl, ClsV.ty n, ty H2 (e1.trans e2), e, q H2 e2⟩
theorem isi_int {K : PySem.W.Frag} {σ : L2.St} {H : Hp} {ta : TE} {i : Int} {n : String} {b : Bool} (ha : Ev ta σ H (.int i)) (e : kitB "int" n = some b := by decide +kernel) : Ev (tCB (rIsi K) (tCons ta (tCons (tC (.ty n)) tNil))) σ H (.bl b) :=
  ev_isi ha (fun _ _ => .base (.int i)) (kit_ty e)
theorem isi_tup {K : PySem.W.Frag} {σ : L2.St} {H : Hp} {ta : TE} {p : Addr} {xs : List V} {n : String} {b : Bool} (ha : Ev ta σ H (.ref p)) (h : H p = some (.tup xs)) (e : kitB "tuple" n = some b := by decide +kernel) : Ev (tCB (rIsi K) (tCons ta (tCons (tC (.ty n)) tNil))) σ H (.bl b) :=
  ev_isi ha (fun _ e1 => .base (.tup (e1 _ _ h))) (kit_ty e)
theorem isi_lst {K : PySem.W.Frag} {σ : L2.St} {H : Hp} {ta : TE} {p : Addr} {xs : List V} {n : String} {b : Bool} (ha : Ev ta σ H (.ref p)) (h : H p = some (.lst xs)) (e : kitB "list" n = some b := by decide +kernel) : Ev (tCB (rIsi K) (tCons ta (tCons (tC (.ty n)) tNil))) σ H (.bl b) :=
  ev_isi ha (fun _ e1 => .base (.lst (e1 _ _ h))) (kit_ty e)
/-! ### the layer, further: what a reading does, told by what follows -/
/-- te does K: whatever is wanted, if K of it holds it is reached -/
def EvK (te : TE) (σ : L2.St) (H : Hp) (K : Hp → VK → Prop) : Prop := ∀ H1, Ex H H1 → ∀ Q : VK, K H1 Q → te σ H1 Q
/-- K asks no more of a greater heap -/
def Mo (K : Hp → VK → Prop) : Prop := ∀ H1 H2 Q, Ex H1 H2 → K H1 Q → K H2 Q
theorem mo_v {z : V} : Mo (RetV z) := fun _ _ _ e k H3 e3 => k H3 (e.trans e3)
theorem mo_l {xs : List V} : Mo (RetL xs) := fun _ _ _ e k p H3 hp e3 h3 => k p H3 (fresh_back e hp) (e.trans e3) h3
theorem mo_u {xs : List V} : Mo (RetU xs) := fun _ _ _ e k p H3 hp e3 h3 => k p H3 (fresh_back e hp) (e.trans e3) h3
section
variable {K : PySem.W.Frag} {σ : L2.St} {H H' : Hp} {ta tb te tx : TE} {t u : TT} {x y z v : V} {D : Ends} {tu tw tz : TS} {g : TG} {C : Hp → VK → Prop}
theorem EvK.mono (e : Ex H H') (h : EvK te σ H C) : EvK te σ H' C := fun H1 e1 Q q => h H1 (e.trans e1) Q q
theorem EvA.toCall {sp : Sp} {vs : List V} {E : XK} {ta : TA} (m : Mo C) (h : EvA ta σ H vs) (hs : ∀ H1, Ex H H1 → ∀ Q E, C H1 Q → sp vs H1 Q E) : EvK (tCall sp [] E ta) σ H C := fun H1 e Q q =>
  h H1 e _ fun H2 e2 => by
    show sp (vs ++ []) H2 Q E
    rw [List.append_nil]
    exact hs H2 (e.trans e2) Q E (m H1 H2 Q e2 q)
theorem ek_meth {Cl : Addr} {m : Str} {sp : Sp} {vs : List V} {E : XK} {ta : TE} {t : TA} {p dx : Addr} {fs : List (Str × V)} (mo : Mo C) (ha : Ev ta σ H (.ref p)) (ho : H p = some (.ins Cl dx fs)) (hm : fs.lookup m = none) (h : EvA t σ H vs)
    (hs : ∀ H1, Ex H H1 → ∀ Q E, C H1 Q → sp (.ref p :: vs) H1 Q E) : EvK (tMeth Cl m sp [] E ta t) σ H C := fun H1 e Q q =>
  ha H1 e _ fun H2 e2 => ⟨p, dx, fs, rfl, (e.trans e2) _ _ ho, hm, h H2 (e.trans e2) _ fun H3 e3 => by
    show sp (.ref p :: (vs ++ [])) H3 Q E
    rw [List.append_nil]
    exact hs H3 ((e.trans e2).trans e3) Q E (mo H1 H3 Q (e2.trans e3) q)⟩
theorem ev_fld {Cl p dx : Addr} {f : Str} {fs : List (Str × V)} (ha : Ev ta σ H (.ref p)) (ho : H p = some (.ins Cl dx fs)) (hc : Cls K Cl) (hn : NoAttr K Cl f) (hl : fs.lookup f = some v) : Ev (tFld K ta f) σ H v := fun H1 e Q q =>
  ha H1 e _ fun H2 e2 => ⟨p, Cl, dx, fs, v, rfl, (e.trans e2) _ _ ho, hc, hn, hl, q H2 e2⟩
theorem s_retK (h : EvK te σ H C) (k : C H D.rt) : tRet te D σ H := h H (Ex.refl H) _ k
theorem s_asgK {i : Nat} (h : EvK te σ H C) (k : C H fun v H1 => D.nx (σ.set i (some v)) H1) : tAsg te (gName i) D σ H := h H (Ex.refl H) _ k
theorem q_asgK {i : Nat} (h : EvK te σ H C) (k : C H fun v H1 => tz D (σ.set i (some v)) H1) : tSeq (tAsg te (gName i)) tz D σ H := s_asgK (D := { D with nx := tz D }) h k
theorem s_dropK (h : EvK te σ H C) (k : C H fun _ H1 => D.nx σ H1) : tDrop te D σ H := h H (Ex.refl H) _ k
theorem q_dropK (h : EvK te σ H C) (k : C H fun _ H1 => tz D σ H1) : tSeq (tDrop te) tz D σ H := s_dropK (D := { D with nx := tz D }) h k
/-- a list, standing or new -/
def EvS (K : PySem.W.Frag) (te : TE) (σ : L2.St) (H : Hp) (xs : List V) : Prop := ∀ H1, Ex H H1 → ∀ Q : VK, (∀ a H2, Ex H1 H2 → SqL K H2 a xs → Q (.ref a) H2) → te σ H1 Q
theorem es_of {a : Addr} {xs : List V} (h : Ev te σ H (.ref a)) (hx : SqL K H a xs) : EvS K te σ H xs := fun H1 e Q q => h H1 e _ fun H2 e2 => q a H2 e2 (ex_l (e.trans e2) hx)
theorem es_new {xs : List V} (h : EvL te σ H xs) : EvS K te σ H xs := fun H1 e Q q => h H1 e _ fun p H2 _ e2 hp => q p H2 e2 (sq_of hp)
/-- a new object, its content known -/
def RetO (o : HO) (H : Hp) (Q : VK) : Prop := ∀ p H2, H p = none → Ex H H2 → H2 p = some o → Q (.ref p) H2
theorem mo_o {o : HO} : Mo (RetO o) := fun _ _ _ e k p H3 hp e3 h3 => k p H3 (fresh_back e hp) (e.trans e3) h3
/-! loops over such a list: nothing that stood at the loop's start is changed in it -/
theorem s_forS {xs : List V} {tl : TE} (h : EvS K tl σ H xs) (Pv : Hp → Nat → L2.St → Hp → Prop) (h0 : ∀ H2, Ex H H2 → Pv H2 0 σ H2) (hl : ∀ H2 i σ' H', Pv H2 i σ' H' → Ex H2 H')
    (hs : ∀ H2, Ex H H2 → ∀ i x σ' H', xs[i]? = some x → Pv H2 i σ' H' → g x σ' H' fun σ2 H3 => tu { D with nx := Pv H2 (i + 1), ct := Pv H2 (i + 1), bk := D.nx } σ2 H3) (hd : ∀ H2, Ex H H2 → ∀ σ' H', Pv H2 xs.length σ' H' → D.nx σ' H') : tFor (iList K tl) g tu D σ H :=
  h H (Ex.refl H) _ fun a H2 e2 hq => ⟨a, rfl, ⟨xs, hq⟩, for_list (Pv H2) (h0 H2 e2) (fun i σ' H' _ p => ex_l (hl H2 i σ' H' p) hq) (hs H2 e2) (hd H2 e2)⟩
theorem q_forS {xs : List V} {tl : TE} (h : EvS K tl σ H xs) (Pv : Hp → Nat → L2.St → Hp → Prop) (h0 : ∀ H2, Ex H H2 → Pv H2 0 σ H2) (hl : ∀ H2 i σ' H', Pv H2 i σ' H' → Ex H2 H')
    (hs : ∀ H2, Ex H H2 → ∀ i x σ' H', xs[i]? = some x → Pv H2 i σ' H' → g x σ' H' fun σ2 H3 => tu { D with nx := Pv H2 (i + 1), ct := Pv H2 (i + 1), bk := tz D } σ2 H3) (hd : ∀ H2, Ex H H2 → ∀ σ' H', Pv H2 xs.length σ' H' → tz D σ' H') : tSeq (tFor (iList K tl) g tu) tz D σ H :=
  s_forS (D := { D with nx := tz D }) h Pv h0 hl hs hd
/-! targets: two, three names from a tuple -/
theorem g_tup2 {i j : Nat} {p : Addr} {a b : V} {Q : L2.St → Hp → Prop} (h : H p = some (.tup [a, b])) (q : Q ((σ.set i (some a)).set j (some b)) H) : gTup K 2 (gCons (gName i) (gCons (gName j) gNil)) (.ref p) σ H Q :=
  ⟨p, [a, b], rfl, st_of h, rfl, a, [b], rfl, b, [], rfl, rfl, q⟩
theorem g_tup3 {i j k : Nat} {p : Addr} {a b c : V} {Q : L2.St → Hp → Prop} (h : H p = some (.tup [a, b, c])) (q : Q (((σ.set i (some a)).set j (some b)).set k (some c)) H) : gTup K 3 (gCons (gName i) (gCons (gName j) (gCons (gName k) gNil))) (.ref p) σ H Q :=
  ⟨p, [a, b, c], rfl, st_of h, rfl, a, [b, c], rfl, b, [c], rfl, c, [], rfl, rfl, q⟩
/-! comprehensions over a list: the states of the turns st, the tests f, what is given: values, or new objects -/
theorem el_lcS {xs : List V} {tl : TE} {vs : List Nat} (st : Nat → L2.St) (f : Nat → Bool) (v : Nat → V) (h : EvS K tl σ H xs) (hz : xs.length ≤ 40000)
    (hg : ∀ (i : Nat) (x : V) H1, Ex H H1 → xs[i]? = some x → ∀ Q : L2.St → Hp → Prop, Q (st i) H1 → g x (wipe σ vs) H1 Q) (hw : ∀ (i : Nat) (x : V), xs[i]? = some x → wipe (st i) vs = wipe σ vs)
    (ht : ∀ (i : Nat) (x : V) H1, Ex H H1 → xs[i]? = some x → EvT t (st i) H1 (f i)) (he : ∀ (i : Nat) (x : V) H1, Ex H H1 → xs[i]? = some x → f i = true → Ev te (st i) H1 (v i)) :
    EvL (tLc (iList K tl) g t te vs) σ H (given xs.length f v) := fun H0 e Q q => h H0 e _ fun a H1 e1 hx => ⟨a, rfl, ⟨xs, hx⟩, fun Dl hD =>
  lc_list (xs := xs) (Cw H1 f v Dl) ⟨hD, Ex.new hD, upd_same⟩ (fun i H' _ p => ex_l p.2.1 hx) (fun i x H' hi p => hg i x H' ((e.trans e1).trans p.2.1) hi _
    ⟨hw i x hi, cw_turn p (by have := (List.getElem?_eq_some_iff.mp hi).1; omega) (ht i x H1 (e.trans e1) hi) (fun hf => he i x H1 (e.trans e1) hi hf)⟩)
    (fun H' p => q Dl H' (fresh_back e1 p.1) (e1.trans p.2.1) p.2.2)⟩
/-- new objects o 0 .. o (n - 1), apart, none of them known to H, in the list at D -/
structure NewObjs (H H' : Hp) (D : Addr) (n : Nat) (o : Nat → HO) (ps : List Addr) : Prop where
  len : ps.length = n
  nd : ps.Nodup
  out : D ∉ ps
  fresh : ∀ p ∈ ps, H p = none
  at_ : ∀ i p, ps[i]? = some p → H' p = some (o i)
def RetOs (n : Nat) (o : Nat → HO) (H : Hp) (Q : VK) : Prop := ∀ D H2 ps, H D = none → Ex H H2 → H2 D = some (.lst (ps.map V.ref)) → NewObjs H H2 D n o ps → Q (.ref D) H2
theorem mo_os {n : Nat} {o : Nat → HO} : Mo (RetOs n o) := fun _ _ _ e k D H3 ps hp e3 h3 n => k D H3 ps (fresh_back e hp) (e.trans e3) h3 ⟨n.len, n.nd, n.out, fun p hp => fresh_back e (n.fresh p hp), n.at_⟩
def Co (H : Hp) (o : Nat → HO) (Dl : Addr) (i : Nat) (H' : Hp) : Prop := ∃ ps, H Dl = none ∧ Ex H H' ∧ H' Dl = some (.lst (ps.map V.ref)) ∧ NewObjs H H' Dl i o ps
theorem co_turn {o : Nat → HO} {Dl : Addr} {i : Nat} {σ2 : L2.St} (p : Co H o Dl i H') (hi : i < 50000) (ht : EvT t σ2 H true) (he : EvK te σ2 H (RetO (o i))) :
    t σ2 H' fun b H3 => if b = true then te σ2 H3 fun y H4 => ∃ acc, H4 Dl = some (.lst acc) ∧ acc.length < sizeLine ∧ Co H o Dl (i + 1) (upd H4 Dl (.lst (acc ++ [y]))) else Co H o Dl (i + 1) H3 := by
  obtain ⟨ps, p1, p2, p3, p4⟩ := p
  refine ht H' p2 _ fun H3 e3 => ?_
  show te σ2 H3 fun y H4 => ∃ acc, H4 Dl = some (.lst acc) ∧ acc.length < sizeLine ∧ Co H o Dl (i + 1) (upd H4 Dl (.lst (acc ++ [y])))
  refine he H3 (p2.trans e3) _ fun q H4 hq e4 hqo => ?_
  have hD4 := e4 Dl _ (e3 Dl _ p3)
  have hqD : q ≠ Dl := fun z => by
    rw [z] at hq
    rw [e3 Dl _ p3] at hq
    cases hq
  have hqn : q ∉ ps := fun z => by
    obtain ⟨j, hj⟩ := List.mem_iff_getElem?.mp z
    have w := e3 _ _ (p4.at_ j q hj)
    rw [hq] at w
    cases w
  refine ⟨ps.map V.ref, hD4, sz_lt (by rw [List.length_map, p4.len]; omega), ps ++ [q], p1, Ex.mut ((p2.trans e3).trans e4) p1, ?_, ?_⟩
  · rw [upd_same, List.map_append]
    rfl
  · refine ⟨by rw [List.length_append, p4.len]; rfl, List.nodup_append.mpr ⟨p4.nd, by simp, fun a ha b hb => ?_⟩, fun z => ?_, fun a ha => ?_, fun j a ha => ?_⟩
    · rintro rfl
      exact hqn (by rw [List.mem_singleton.mp hb] at ha; exact ha)
    · rcases List.mem_append.mp z with z | z
      · exact p4.out z
      · exact hqD (List.mem_singleton.mp z).symm
    · rcases List.mem_append.mp ha with z | z
      · exact p4.fresh a z
      · rw [List.mem_singleton.mp z]
        exact fresh_back (p2.trans e3) hq
    · by_cases hj : j < ps.length
      · rw [List.getElem?_append_left hj] at ha
        have hne : a ≠ Dl := fun z => p4.out (by rw [← z]; exact List.mem_of_getElem? ha)
        rw [upd_ne hne]
        exact e4 _ _ (e3 _ _ (p4.at_ j a ha))
      · have hj2 : j = ps.length := by
          have := (List.getElem?_eq_some_iff.mp ha).1
          rw [List.length_append] at this
          simp at this
          omega
        subst hj2
        rw [List.getElem?_append_right (Nat.le_refl _), Nat.sub_self] at ha
        obtain rfl : q = a := by simpa using ha
        rw [upd_ne hqD, p4.len]
        exact hqo
theorem ek_lcS {xs : List V} {tl : TE} {vs : List Nat} (st : Nat → L2.St) (o : Nat → HO) (h : EvS K tl σ H xs) (hz : xs.length ≤ 40000)
    (hg : ∀ (i : Nat) (x : V) H1, Ex H H1 → xs[i]? = some x → ∀ Q : L2.St → Hp → Prop, Q (st i) H1 → g x (wipe σ vs) H1 Q) (hw : ∀ (i : Nat) (x : V), xs[i]? = some x → wipe (st i) vs = wipe σ vs)
    (ht : ∀ (i : Nat) (x : V) H1, Ex H H1 → xs[i]? = some x → EvT t (st i) H1 true) (he : ∀ (i : Nat) (x : V) H1, Ex H H1 → xs[i]? = some x → EvK te (st i) H1 (RetO (o i))) :
    EvK (tLc (iList K tl) g t te vs) σ H (RetOs xs.length o) := fun H0 e Q q => h H0 e _ fun a H1 e1 hx => ⟨a, rfl, ⟨xs, hx⟩, fun Dl hD =>
  lc_list (xs := xs) (Co H1 o Dl) ⟨[], hD, Ex.new hD, upd_same, ⟨rfl, List.nodup_nil, by simp, by simp, by simp⟩⟩ (fun i H' _ ⟨_, _, p, _⟩ => ex_l p hx) (fun i x H' hi p => hg i x H' (by obtain ⟨_, _, p, _⟩ := p; exact (e.trans e1).trans p) hi _
    ⟨hw i x hi, co_turn p (by have := (List.getElem?_eq_some_iff.mp hi).1; omega) (ht i x H1 (e.trans e1) hi) (he i x H1 (e.trans e1) hi)⟩)
    (fun H' ⟨ps, p1, p2, p3, p4⟩ => q Dl H' ps (fresh_back e1 p1) (e1.trans p2) p3 ⟨p4.len, p4.nd, p4.out, fun z hz => fresh_back e1 (p4.fresh z hz), p4.at_⟩)⟩
theorem ek_lcR {ta : TA} {j : Nat} {vs : List Nat} {n : Nat} (o : Nat → HO) (h : EvA ta σ H [.int (n : Int)]) (hn : n ≤ 40000) (hw : ∀ x, wipe ((wipe σ vs).set j (some x)) vs = wipe σ vs)
    (ht : ∀ (i : Nat) H1, Ex H H1 → i < n → EvT t ((wipe σ vs).set j (some (.int (i : Int)))) H1 true) (he : ∀ (i : Nat) H1, Ex H H1 → i < n → EvK te ((wipe σ vs).set j (some (.int (i : Int)))) H1 (RetO (o i))) :
    EvK (tLc (iRng1 ta) (gName j) t te vs) σ H (RetOs n o) := fun H0 e Q q => h H0 e _ fun H1 e1 => ⟨(n : Int), rfl, by omega, by omega, fun Dl hD =>
  lc_range (lo := 0) (n := (n : Int).toNat) (Co H1 o Dl) ⟨[], hD, Ex.new hD, upd_same, ⟨rfl, List.nodup_nil, by simp, by simp, by simp⟩⟩ (fun i H' hi p => by
    have e0 : (0 : Int) + (i : Int) = (i : Int) := Int.zero_add _
    show wipe ((wipe σ vs).set j (some (.int ((0 : Int) + (i : Int))))) vs = wipe σ vs ∧ t ((wipe σ vs).set j (some (.int ((0 : Int) + (i : Int))))) H' fun b H3 => if b = true then te ((wipe σ vs).set j (some (.int ((0 : Int) + (i : Int))))) H3 fun y H4 => ∃ acc, H4 Dl = some (.lst acc) ∧ acc.length < sizeLine ∧ Co H1 o Dl (i + 1) (upd H4 Dl (.lst (acc ++ [y]))) else Co H1 o Dl (i + 1) H3
    rw [e0]
    exact ⟨hw _, co_turn p (by omega) (ht i H1 (e.trans e1) (by omega)) (he i H1 (e.trans e1) (by omega))⟩)
    (fun H' ⟨ps, p1, p2, p3, p4⟩ => q Dl H' ps (fresh_back e1 p1) (e1.trans p2) p3 ⟨by rw [p4.len, Int.toNat_natCast], p4.nd, p4.out, fun z hz => fresh_back e1 (p4.fresh z hz), p4.at_⟩)⟩
/-- all are given -/
theorem given_all {n : Nat} {v : Nat → V} : given n (fun _ => true) v = (List.range n).map v := by
  unfold given
  rw [List.filter_eq_self.mpr (fun _ _ => rfl)]
theorem et_true : EvT (fun _ H Q => Q true H) σ H true := fun H1 _ _ q => q H1 (Ex.refl H1)
end
/-! ### the greatest of some ints -/
def mxI : List Int → Int
  | [] => 0
  | [x] => x
  | x :: y :: r => max x (mxI (y :: r))
theorem mxI_mem : ∀ {xs : List Int}, xs ≠ [] → mxI xs ∈ xs
  | [], h => absurd rfl h
  | [x], _ => List.mem_cons_self
  | x :: y :: r, _ => by
    show max x (mxI (y :: r)) ∈ _
    have ih := mxI_mem (xs := y :: r) (by simp)
    rcases Int.le_total x (mxI (y :: r)) with h | h
    · rw [Int.max_eq_right h]
      exact List.mem_cons_of_mem _ ih
    · rw [Int.max_eq_left h]
      exact List.mem_cons_self
theorem le_mxI : ∀ {xs : List Int} {x : Int}, x ∈ xs → x ≤ mxI xs
  | [], _, h => by cases h
  | [x], y, h => by
    rw [List.mem_singleton.mp h]
    exact Int.le_refl _
  | x :: y :: r, z, h => by
    show z ≤ max x (mxI (y :: r))
    rcases List.mem_cons.mp h with h | h
    · rw [h]
      exact Int.le_max_left _ _
    · exact Int.le_trans (le_mxI h) (Int.le_max_right _ _)
theorem mxI_is {xs : List Int} {m : Int} (h : m ∈ xs) (hm : ∀ y ∈ xs, y ≤ m) : m = mxI xs :=
  Int.le_antisymm (le_mxI h) (hm _ (mxI_mem (by intro z; rw [z] at h; cases h)))
theorem mxI_le {xs : List Int} {b : Int} (h : xs ≠ []) (hb : ∀ y ∈ xs, y ≤ b) : mxI xs ≤ b := hb _ (mxI_mem h)
section
variable {K : PySem.W.Frag} {σ : L2.St} {H : Hp} {ta : TE}
theorem ev_max {ns : List Int} (h : EvS K ta σ H (ns.map V.int)) (hne : ns ≠ []) : Ev (tCB (rMax K) (tCons ta tNil)) σ H (.int (mxI ns)) := fun H1 e Q q =>
  h H1 e _ fun a H2 e2 hq => ⟨a, ns, rfl, hq, List.length_pos_iff.mpr hne, fun m h1 h2 => by rw [mxI_is h1 h2]; exact q H2 e2⟩
end
/-! ### heaps: lists of tuples, lists of lists, webs -/
/-- the values vs are tuples of these -/
def Tups (H : Hp) (vs : List V) (xss : List (List V)) : Prop := vs.length = xss.length ∧ ∀ (i : Nat) (x : List V), xss[i]? = some x → ∃ p, vs[i]? = some (.ref p) ∧ H p = some (.tup x)
theorem Tups.ex {H H' : Hp} {vs : List V} {xss : List (List V)} (e : Ex H H') (h : Tups H vs xss) : Tups H' vs xss := ⟨h.1, fun i x hx => by
  obtain ⟨p, a, b⟩ := h.2 i x hx
  exact ⟨p, a, e _ _ b⟩⟩
theorem Tups.at {H : Hp} {vs : List V} {xss : List (List V)} {i : Nat} {v : V} (h : Tups H vs xss) (hv : vs[i]? = some v) : ∃ p x, v = .ref p ∧ xss[i]? = some x ∧ H p = some (.tup x) := by
  have hi := (List.getElem?_eq_some_iff.mp hv).1
  rw [h.1] at hi
  obtain ⟨p, a, b⟩ := h.2 i _ (List.getElem?_eq_getElem hi)
  rw [hv] at a
  exact ⟨p, _, Option.some.inj a, List.getElem?_eq_getElem hi, b⟩
theorem Tups.nil {H : Hp} : Tups H [] [] := ⟨rfl, fun i x h => by simp at h⟩
theorem tups_new {H H' : Hp} {D : Addr} {n : Nat} {f : Nat → List V} {ps : List Addr} (h : NewObjs H H' D n (fun i => .tup (f i)) ps) : Tups H' (ps.map V.ref) ((List.range n).map f) := by
  refine ⟨by simp [h.len], fun i x hx => ?_⟩
  rw [List.getElem?_map] at hx
  have hi : i < n := by
    cases Nat.lt_or_ge i n with
    | inl z => exact z
    | inr z =>
      rw [List.getElem?_eq_none (by simpa using z)] at hx
      cases hx
  rw [List.getElem?_range hi] at hx
  obtain rfl : f i = x := by simpa using hx
  obtain ⟨p, hp⟩ : ∃ p, ps[i]? = some p := ⟨ps[i]'(by rw [h.len]; exact hi), List.getElem?_eq_getElem _⟩
  exact ⟨p, by rw [List.getElem?_map, hp]; rfl, h.at_ i p hp⟩
def wayV (w : Way) : List V := [.int (w.1 : Int), .int (w.2.1 : Int), .int (w.2.2 : Int)]
def pairV (p : Nat × Nat) : List V := [.int (p.1 : Int), .int (p.2 : Int)]
def natV (ms : List Nat) : List V := ms.map fun (m : Nat) => V.int (m : Int)
theorem natV_app (xs ys : List Nat) : natV (xs ++ ys) = natV xs ++ natV ys := List.map_append
theorem natV_at {ms : List Nat} {i m : Nat} (h : ms[i]? = some m) : (natV ms)[i]? = some (.int (m : Int)) := by
  unfold natV
  rw [List.getElem?_map, h]
  rfl
theorem natV_len (ms : List Nat) : (natV ms).length = ms.length := List.length_map _
theorem flat_natV (ms : List Nat) : (natV ms).all flatV = true := by
  rw [List.all_eq_true]
  intro v hv
  obtain ⟨m, _, rfl⟩ := List.mem_map.mp hv
  rfl
theorem inV_nat (b : Nat) (ms : List Nat) : inV (.int (b : Int)) (natV ms) = decide (b ∈ ms) := by
  unfold inV natV
  rw [List.any_map]
  by_cases h : b ∈ ms
  · rw [decide_eq_true h, List.any_eq_true]
    exact ⟨b, h, by show ((b : Int) == (b : Int)) = true; exact beq_self_eq_true _⟩
  · rw [decide_eq_false h, List.any_eq_false]
    intro x hx z
    have z2 : ((x : Int) == (b : Int)) = true := z
    have : (x : Int) = (b : Int) := eq_of_beq z2
    have : x = b := by omega
    rw [this] at hx
    exact h hx
theorem map_getD {α β : Type} (l : List α) (d : α) (f : α → β) : (List.range l.length).map (fun i => f (l.getD i d)) = l.map f := by
  apply List.ext_getElem?
  intro i
  rw [List.getElem?_map, List.getElem?_map]
  cases Nat.lt_or_ge i l.length with
  | inl h => rw [List.getElem?_range h, List.getElem?_eq_getElem h, Option.map_some, Option.map_some, List.getD_eq_getElem?_getD, List.getElem?_eq_getElem h]; rfl
  | inr h => rw [List.getElem?_eq_none (by simpa using h), List.getElem?_eq_none h]; rfl
theorem getD_of {α : Type} {l : List α} {i : Nat} {x d : α} (h : l[i]? = some x) : l.getD i d = x := by
  rw [List.getD_eq_getElem?_getD, h]
  rfl
/-- the attributes of a web, as its __init__ stores them -/
def wf1 (n : Nat) : List (Str × V) := putF "many" (.int (n : Int)) []
def wf2 (n : Nat) (lw : Addr) : List (Str × V) := putF "ways" (.ref lw) (wf1 n)
def webF (n : Nat) (lw li : Addr) : List (Str × V) := putF "inner" (.ref li) (wf2 n lw)
theorem n_mw : ¬ (("many" : Str) = "ways") := by decide +kernel
theorem n_mi : ¬ (("many" : Str) = "inner") := by decide +kernel
theorem n_wi : ¬ (("ways" : Str) = "inner") := by decide +kernel
theorem wf1_many (n : Nat) : (wf1 n).lookup ("many" : Str) = some (.int (n : Int)) := by
  unfold wf1
  rw [lookup_putF, if_pos rfl]
theorem wf2_many (n : Nat) (lw : Addr) : (wf2 n lw).lookup ("many" : Str) = some (.int (n : Int)) := by
  unfold wf2
  rw [lookup_putF, if_neg n_mw, wf1_many]
theorem wf2_ways (n : Nat) (lw : Addr) : (wf2 n lw).lookup ("ways" : Str) = some (.ref lw) := by
  unfold wf2
  rw [lookup_putF, if_pos rfl]
theorem webF_many (n : Nat) (lw li : Addr) : (webF n lw li).lookup ("many" : Str) = some (.int (n : Int)) := by
  unfold webF
  rw [lookup_putF, if_neg n_mi, wf2_many]
theorem webF_ways (n : Nat) (lw li : Addr) : (webF n lw li).lookup ("ways" : Str) = some (.ref lw) := by
  unfold webF
  rw [lookup_putF, if_neg n_wi, wf2_ways]
theorem webF_inner (n : Nat) (lw li : Addr) : (webF n lw li).lookup ("inner" : Str) = some (.ref li) := by
  unfold webF
  rw [lookup_putF, if_pos rfl]
theorem wf2_no (n : Nat) (lw : Addr) {m : Str} (h1 : ¬ m = "many") (h2 : ¬ m = "ways") : (wf2 n lw).lookup m = none := by
  unfold wf2 wf1
  rw [lookup_putF, if_neg h2, lookup_putF, if_neg h1]
  rfl
theorem webF_no (n : Nat) (lw li : Addr) {m : Str} (h1 : ¬ m = "many") (h2 : ¬ m = "ways") (h3 : ¬ m = "inner") : (webF n lw li).lookup m = none := by
  unfold webF
  rw [lookup_putF, if_neg h3, wf2_no n lw h1 h2]
theorem putF_len (f : Str) (v : V) : ∀ fs : List (Str × V), (putF f v fs).length ≤ fs.length + 1
  | [] => Nat.le_refl _
  | (g, x) :: r => by
    unfold putF
    split
    · show r.length + 1 ≤ r.length + 1 + 1
      omega
    · have := putF_len f v r
      show (putF f v r).length + 1 ≤ r.length + 1 + 1
      omega
/-- a web stands at p -/
def WebAt (C : Addr) (H : Hp) (p : Addr) (n : Nat) (ws : List Way) : Prop := ∃ (dx lw li : Addr) (vw vi : List V), H p = some (.ins C dx (webF n lw li)) ∧ H lw = some (.lst vw) ∧ Tups H vw (ws.map wayV) ∧ H li = some (.lst vi) ∧ vi.length = n ∧
  ∀ m, m < n → ∃ (lm : Addr) (vm : List V), vi[m]? = some (.ref lm) ∧ H lm = some (.lst vm) ∧ Tups H vm ((inn ws m).map pairV)
theorem WebAt.ex {C : Addr} {H H' : Hp} {p : Addr} {n : Nat} {ws : List Way} (e : Ex H H') (h : WebAt C H p n ws) : WebAt C H' p n ws := by
  obtain ⟨dx, lw, li, vw, vi, h1, h2, h3, h4, h5, h6⟩ := h
  refine ⟨dx, lw, li, vw, vi, e _ _ h1, e _ _ h2, h3.ex e, e _ _ h4, h5, fun m hm => ?_⟩
  obtain ⟨lm, vm, k1, k2, k3⟩ := h6 m hm
  exact ⟨lm, vm, k1, e _ _ k2, k3.ex e⟩
/-! more of the layer: two lists put together, an item by its place -/
section
variable {K : PySem.W.Frag} {σ : L2.St} {H H' : Hp} {ta tb te tx : TE}
/-- a list of the call's own, standing or new -/
def EvW (te : TE) (σ : L2.St) (H : Hp) (xs : List V) : Prop := ∀ H1, Ex H H1 → ∀ Q : VK, (∀ a H2, Ex H1 H2 → H2 a = some (.lst xs) → Q (.ref a) H2) → te σ H1 Q
theorem ew_of {a : Addr} {xs : List V} (h : Ev te σ H (.ref a)) (hx : H a = some (.lst xs)) : EvW te σ H xs := fun H1 e Q q => h H1 e _ fun H2 e2 => q a H2 e2 ((e.trans e2) _ _ hx)
theorem ew_new {xs : List V} (h : EvL te σ H xs) : EvW te σ H xs := fun H1 e Q q => h H1 e _ fun p H2 _ e2 hp => q p H2 e2 hp
theorem el_cat {xs ys : List V} (ha : EvW ta σ H xs) (hb : EvW tb σ H ys) (hz : xs.length + ys.length ≤ 100000) : EvL (tOp rCat ta tb) σ H (xs ++ ys) := fun H1 e Q q =>
  ha H1 e _ fun a H2 e2 h2 => hb H2 (e.trans e2) _ fun b H3 e3 h3 => ⟨a, b, xs, ys, rfl, rfl, e3 _ _ h2, h3, sz_of hz, fun p hp => q p _ (fresh_back (e2.trans e3) hp) ((e2.trans e3).trans (Ex.new hp)) upd_same⟩
theorem at_nat {xs : List V} {j : Nat} {i : Int} {v : V} (h : xs[j]? = some v) (e : i = (j : Int) := by rfl) : atI xs i = some v := at_of e h
theorem at_last {xs : List V} {v : V} (h : xs[xs.length - 1]? = some v) : atI xs (-1) = some v := by
  have hl := (List.getElem?_eq_some_iff.mp h).1
  unfold atI ixN
  rw [if_neg (by decide), if_pos (by omega)]
  show xs[((-1 : Int) + (xs.length : Int)).toNat]? = some v
  rw [show ((-1 : Int) + (xs.length : Int)).toNat = xs.length - 1 by omega]
  exact h
theorem at_neg {xs : List V} {v : V} {k : Nat} {i : Int} (h : xs[xs.length - k]? = some v) (hk : 0 < k) (hi : i = -(k : Int)) (hle : k ≤ xs.length) : atI xs i = some v := by
  subst hi
  unfold atI ixN
  rw [if_neg (by omega), if_pos (by omega)]
  show xs[(-(k : Int) + (xs.length : Int)).toNat]? = some v
  rw [show (-(k : Int) + (xs.length : Int)).toNat = xs.length - k by omega]
  exact h
/-- xs[i], the list new or standing -/
theorem ev_ixW {xs : List V} {i : Int} {v : V} (ha : EvS K ta σ H xs) (hb : Ev tb σ H (.int i)) (h : atI xs i = some v) : Ev (tOp (rIxL K) ta tb) σ H v := fun H1 e Q q =>
  ha H1 e _ fun a H2 e2 h2 => hb H2 (e.trans e2) _ fun H3 e3 => ⟨a, xs, i, v, rfl, rfl, ex_l e3 h2, h, q H3 (e2.trans e3)⟩
/-- t[i] of a tuple just made or standing -/
theorem ev_ixU {p : Addr} {xs : List V} {i : Int} {v : V} (ha : Ev ta σ H (.ref p)) (hp : H p = some (.tup xs)) (hb : Ev tb σ H (.int i)) (h : atI xs i = some v) : Ev (tOp (rIxT K) ta tb) σ H v :=
  ev_op ha hb (rv_ixT (st_of hp) h)
theorem el_listW {xs : List V} (ha : EvS K ta σ H xs) : EvL (tCB (rListS K) (tCons ta tNil)) σ H xs := fun H1 e Q q =>
  ha H1 e _ fun a H2 e2 h2 => ⟨a, xs, rfl, Or.inl h2, fun l hl => q l _ (fresh_back e2 hl) (e2.trans (Ex.new hl)) upd_same⟩
theorem ev_lenW {xs : List V} (ha : EvS K ta σ H xs) : Ev (tCB (rLenS K) (tCons ta tNil)) σ H (.int (xs.length : Int)) := fun H1 e Q q =>
  ha H1 e _ fun a H2 e2 h2 => ⟨a, xs, rfl, Or.inl h2, q H2 e2⟩
/-- xs == [], of ints or of tuples -/
theorem rne_nil : True := trivial
end
/-! ### max(xs, default=None): the greatest, None of none -/
section
open PySem.W PySem.Calls
variable {prog : Program} {w : World} {A : Around} {R : Result → Shared → Prop} {I : Addr} {fp wr : List Addr} {n : Nat} {P : Nat → Value → Prop} {St : Nat → Heap → Prop} {kws : List (Str × Value)}
abbrev mxCall (I S : Addr) (kws : List (Str × Value)) : Code := .builtin "max.loop" ⟨[.ref I, .none, .ref S], kws⟩
theorem mx_name : (toString "max" ++ toString ".loop" : String) = "max.loop" := by decide
/-- the turns behind the first one: j + 1 items seen, the best of them held -/
theorem mx_on (wk : Walks prog w A.in1 I fp wr n P St) (bt : Nat → Nat → Bool) (cmp : CmpOf prog w A.in1 .Gt P bt) (S : Addr) (Sfp : S ∉ fp) : ∀ (k j : Nat) (s : Shared) (vb : Value) (c : Nat), n - (j + 1) = k → j + 1 ≤ n → St (j + 1) s.heap → P (argBest bt j) vb →
    s.heap.get? S = some { cls := .type "list", data := .seq #[vb, vb] c } →
    (∀ v g tk, P (argBest bt (n - 1)) v → (∀ b o, b ∉ wr → b ≠ S → s.heap.get? b = some o → g.get? b = some o) → R (.ok (.ret v)) { s with heap := g, toks := tk }) → codeAny (model prog w) A (mxCall I S kws) R s
  | 0, j, s, vb, c, hk, hj, st0, pb, atS, fin => by
    have jn : j + 1 = n := by omega
    have Swr : S ∉ wr := fun z => Sfp (wk.sub _ z)
    apply codeAny_builtin F.entry_max_loop
    rw [Around.under_plainId F.plain_max_loop _]
    show wpAny _ A.in1 (seqItems? (.ref S) >>= _) _ _ s
    apply wpAny_bind
    apply wpAny_seqItems atS rfl
    show wpAny _ A.in1 (tryCatch (pyNext (.ref I)) _ >>= _) _ _ s
    apply wpAny_bind
    apply wpAny_tryCatch
    refine wk.done s _ _ (by rw [← jn]; exact st0) fun g tk kg => ?_
    have atS2 := kg S _ Swr atS
    show wpAny _ A.in1 (updateSeq S (fun _ => #[]) >>= _) _ _ _
    apply wpAny_bind
    apply wpAny_updateSeq atS2 rfl
    apply wpAny_bind
    apply wpAny_letGo
    apply wpAny_pure
    exact fin vb _ tk (by rw [← jn]; exact pb) fun b o h1 h2 e => (Heap.get?_update_other _ _ (Ne.symm h2)).trans (kg b o h1 e)
  | k + 1, j, s, vb, c, hk, hj, st0, pb, atS, fin => by
    have jn : j + 1 < n := by omega
    have Swr : S ∉ wr := fun z => Sfp (wk.sub _ z)
    apply codeAny_builtin F.entry_max_loop
    rw [Around.under_plainId F.plain_max_loop _]
    show wpAny _ A.in1 (seqItems? (.ref S) >>= _) _ _ s
    apply wpAny_bind
    apply wpAny_seqItems atS rfl
    show wpAny _ A.in1 (tryCatch (pyNext (.ref I)) _ >>= _) _ _ s
    apply wpAny_bind
    apply wpAny_tryCatch
    refine wk.item (j + 1) s _ _ jn st0 fun v g tk pv stg kg => ?_
    have atS2 := kg S _ Swr atS
    show wpAny _ A.in1 (tryCatch (holding [v, v] (richCompare .Gt v vb >>= _)) _ >>= _) _ _ _
    apply wpAny_bind
    apply wpAny_tryCatch
    apply wpAny_holding
    apply wpAny_bind
    refine cmp (j + 1) (argBest bt j) v vb _ _ _ pv pb ?_
    apply wpAny_bind
    apply wpAny_holding
    apply wpAny_truthy_bool
    apply wpAny_bind
    apply wpAny_letGo
    apply wpAny_pure
    cases hb : bt (j + 1) (argBest bt j) with
    | true =>
      simp only [if_true]
      apply wpAny_bind
      apply wpAny_updateSeq atS2 rfl
      apply wpAny_bind
      apply wpAny_letGo
      rw [mx_name]
      have stg2 : St (j + 1 + 1) (g.update S (Obj.mapSeq fun _ => #[v, v])) := wk.frame _ _ _ stg fun b hf o e => (Heap.get?_update_other _ _ (fun z : S = b => Sfp (by rw [z]; exact hf))).trans e
      refine wpAny_pure ⟨plainId_quiet F.plain_max_loop _, mx_on wk bt cmp S Sfp k (j + 1) _ v _ (by omega) jn stg2 (by simp only [argBest, hb, if_true]; exact pv) (Heap.get?_update_self _ atS2 rfl) fun v2 g2 tk2 p2 k2 => fin v2 g2 tk2 p2 fun b o h1 h2 e => ?_⟩
      exact k2 b o h1 h2 ((Heap.get?_update_other _ _ (Ne.symm h2)).trans (kg b o h1 e))
    | false =>
      simp only [Bool.false_eq_true, if_false]
      apply wpAny_bind
      apply wpAny_letGo
      rw [mx_name]
      refine wpAny_pure ⟨plainId_quiet F.plain_max_loop _, mx_on wk bt cmp S Sfp k (j + 1) _ vb c (by omega) jn stg (by simp only [argBest, hb, Bool.false_eq_true, if_false]; exact pb) atS2 fun v2 g2 tk2 p2 k2 => fin v2 g2 tk2 p2 fun b o h1 h2 e => ?_⟩
      exact k2 b o h1 h2 (kg b o h1 e)
/-- the first turn: an item, or none and the default -/
theorem mx_first (wk : Walks prog w A.in1 I fp wr n P St) (bt : Nat → Nat → Bool) (cmp : CmpOf prog w A.in1 .Gt P bt) (S : Addr) (Sfp : S ∉ fp) {s : Shared} {c : Nat} {x : Str} {d : Value} (st0 : St 0 s.heap) (atS : s.heap.get? S = some { cls := .type "list", data := .seq #[] c })
    (fin0 : n = 0 → ∀ g tk, (∀ b o, b ∉ wr → b ≠ S → s.heap.get? b = some o → g.get? b = some o) → R (.ok (.ret d)) { s with heap := g, toks := tk })
    (fin : 0 < n → ∀ v g tk, P (argBest bt (n - 1)) v → (∀ b o, b ∉ wr → b ≠ S → s.heap.get? b = some o → g.get? b = some o) → R (.ok (.ret v)) { s with heap := g, toks := tk }) : codeAny (model prog w) A (mxCall I S [(x, d)]) R s := by
  have Swr : S ∉ wr := fun z => Sfp (wk.sub _ z)
  apply codeAny_builtin F.entry_max_loop
  rw [Around.under_plainId F.plain_max_loop _]
  show wpAny _ A.in1 (seqItems? (.ref S) >>= _) _ _ s
  apply wpAny_bind
  apply wpAny_seqItems atS rfl
  show wpAny _ A.in1 (tryCatch (pyNext (.ref I)) _ >>= _) _ _ s
  apply wpAny_bind
  apply wpAny_tryCatch
  by_cases hn : n = 0
  · refine wk.done s _ _ (by rw [hn]; exact st0) fun g tk kg => ?_
    show wpAny _ A.in1 (do let _ ← rule "max.default"; ret d) _ _ _
    exact wpAny_bind (wpAny_rule (wpAny_pure (fin0 hn g tk fun b o h1 _ e => kg b o h1 e)))
  · have h0 : 0 < n := by omega
    refine wk.item 0 s _ _ h0 st0 fun v g tk pv stg kg => ?_
    have atS2 := kg S _ Swr atS
    show wpAny _ A.in1 (updateSeq S (fun _ => #[v, v]) >>= _) _ _ _
    apply wpAny_bind
    apply wpAny_updateSeq atS2 rfl
    rw [mx_name]
    have stg2 : St (0 + 1) (g.update S (Obj.mapSeq fun _ => #[v, v])) := wk.frame _ _ _ stg fun b hf o e => (Heap.get?_update_other _ _ (fun z : S = b => Sfp (by rw [z]; exact hf))).trans e
    refine wpAny_pure ⟨plainId_quiet F.plain_max_loop _, mx_on wk bt cmp S Sfp _ 0 _ v _ rfl h0 stg2 pv (Heap.get?_update_self _ atS2 rfl) fun v2 g2 tk2 p2 k2 => fin h0 v2 g2 tk2 p2 fun b o h1 h2 e => ?_⟩
    exact k2 b o h1 h2 ((Heap.get?_update_other _ _ (Ne.symm h2)).trans (kg b o h1 e))
end
section
open PySem.W PySem.Calls
variable {prog : Program} {w : World} {A : Around} {E : Value → Shared → Prop} {s : Shared}
theorem args_maxD (a d : Value) : argsOk "max" ⟨[a], [(Str.ofString "default", d)]⟩ := by unfold argsOk; kernel_rfl
theorem max_dflt {l : Addr} {its : List Value} {ns : List Int} {d : Value} {Q : Value → Shared → Prop} (hh : A.handled = none) (hl : s.heap.IsList l its.toArray) (hi : IntsAre its ns)
    (q0 : ns = [] → ∀ g tk, (∀ b o, s.heap.get? b = some o → g.get? b = some o) → Q d { s with heap := g, toks := tk })
    (q1 : ns ≠ [] → ∀ g tk t, (∀ b o, s.heap.get? b = some o → g.get? b = some o) → Q (.int (mxI ns) t) { s with heap := g, toks := tk }) : wpAny (model prog w) A (call (.builtin "max") [.ref l] [(Str.ofString "default", d)]) Q E s := by
  obtain ⟨xs, e⟩ := hi.allInts.items
  have hn : ns = xs.toList.map (·.1) := by
    rw [← hi.numsOf, ← PySem.nums_intItems, ← e]
  rw [e] at hl
  have hsz : xs.size = ns.length := by rw [hn]; simp
  refine wpAny_call (codeAny_call_builtin PySem.F.plain_max PySem.F.entry_max ?_)
  have step : ∀ (T : Sem PySem.Fin) (Q1 : PySem.Fin → Shared → Prop) (E1 : Value → Shared → Prop), wpAny (model prog w) A.in1 T Q1 E1 s → wpAny (model prog w) A.in1 (checkBuiltinCall "max" ⟨[.ref l], [(Str.ofString "default", d)]⟩) (fun _ s1 => wpAny (model prog w) A.in1 T Q1 E1 s1) E1 s := by
    intro T Q1 E1 hT
    have ha := args_maxD (.ref l) d
    simp only [checkBuiltinCall, PySem.F.kind_max]
    cases hs : Manifest.signature? "max" with
    | none => exact wpAny_pure hT
    | some sg =>
      have hb : Bind.checkArgs "max" sg ⟨[.ref l], [(Str.ofString "default", d)]⟩ = pure () := by simpa only [argsOk, hs] using ha
      simp only [hb]
      exact wpAny_pure hT
  apply step
  show wpAny _ A.in1 (Builtin.Builtins.bindParams "max" ["key", "default"] 0 ⟨[], [(Str.ofString "default", d)]⟩ >>= _) _ _ s
  have hbp : Builtin.Builtins.bindParams "max" ["key", "default"] 0 ⟨[], [(Str.ofString "default", d)]⟩ = pure [none, some d] := by first | rfl | kernel_rfl
  refine wpAny_bind (wpAny_of_eq hbp ?_)
  apply wpAny_bind
  apply wpAny_pure
  apply wpAny_bind
  refine iter_intList (xs := xs) hl fun s2 es st hfp hlI => ?_
  subst es
  apply wpAny_bind
  refine wpAny_newObj_type ?_
  have hSf : (s.heap.push { cls := .type "list_iterator", data := .fields #[.ref l, .int 0 0] }).objs.size ∉ [s.heap.objs.size, l] := fun hm => Nat.lt_irrefl _ (hfp _ hm)
  have up : ∀ {g : Heap}, (∀ b o, b ∉ [s.heap.objs.size] → b ≠ (s.heap.push { cls := .type "list_iterator", data := .fields #[.ref l, .int 0 0] }).objs.size → ((s.heap.push { cls := .type "list_iterator", data := .fields #[.ref l, .int 0 0] }).push { cls := .type "list", data := .seq #[] }).get? b = some o → g.get? b = some o) → ∀ b o, s.heap.get? b = some o → g.get? b = some o := fun {g} kg b o e => by
    have e1 : (s.heap.push { cls := .type "list_iterator", data := .fields #[.ref l, .int 0 0] }).get? b = some o := Heap.get?_push_of_some _ e
    refine kg b o (fun hm => ?_) (Nat.ne_of_lt (Heap.lt_size e1)) (Heap.get?_push_of_some _ e1)
    rw [List.mem_singleton.mp hm] at e
    exact Nat.lt_irrefl _ (Heap.lt_size e)
  rw [mx_name]
  refine wpAny_pure ⟨plainId_quiet F.plain_max_loop _, mx_first (n := (intItems xs).size) (Walks.list (A := A.in1) hh _ l hlI (intItems xs)) _ (CmpOf.ints_gt (numAt xs) (fun _ _ => intItems_at)) _ hSf (x := "default") (d := d) ⟨st.1.at fun o e => Heap.get?_push_of_some _ e, st.2.push _⟩ (Heap.get?_push_size _ rfl) (fun h0 g tk kg => ?_) (fun h0 v g tk hv kg => ?_)⟩
  · have : ns = [] := List.length_eq_zero_iff.mp (by rw [← hsz]; simpa [intItems] using h0)
    exact q0 this g tk (up kg)
  · have hne : ns ≠ [] := fun z => by
      rw [z] at hsz
      have : (intItems xs).size = 0 := by simpa [intItems] using hsz
      omega
    have hv2 : (intItems xs)[argBest (fun i j => decide (numAt xs i > numAt xs j)) (xs.size - 1)]? = some v := by simpa [intItems] using hv
    obtain ⟨t, rfl⟩ := intItems_at hv2
    obtain ⟨b1, b2⟩ := argBest_gt (numAt xs) (xs.size - 1)
    have hm : numAt xs (argBest (fun i j => decide (numAt xs i > numAt xs j)) (xs.size - 1)) = mxI ns := by
      have hpos : 0 < xs.size := by
        rw [hsz]
        exact List.length_pos_iff.mpr hne
      refine mxI_is ?_ fun y hy => ?_
      · rw [hn, numAt_eq]
        exact PySem.getD_mem (by rw [List.length_map, Array.length_toList]; omega)
      · rw [hn] at hy
        obtain ⟨j, hj, rfl⟩ := mem_getD hy
        rw [List.length_map, Array.length_toList] at hj
        rw [← numAt_eq]
        exact b2 j (by omega)
    rw [hm]
    exact q1 hne g tk t (up kg)
end
section
variable {X : Cx}
def rMaxD (K : PySem.W.Frag) : List V → List V → Hp → VK → Prop := fun vs zs H Q => ∃ (a : Addr) (ns : List Int), vs = [V.ref a] ∧ zs = [.non] ∧ SqL K H a (ns.map V.int) ∧ Q (if ns = [] then .non else .int (mxI ns)) H
theorem cr_maxDf (hc : X.calm = true) : CallRK X (.builtin "max") [Str.ofString "default"] (rMaxD X.K) := by
  intro pins s σ H vs zs us ws Q I r rz h
  obtain ⟨a, ns, rfl, rfl, hs, q⟩ := h
  obtain ⟨its, rv, hl, _⟩ := I.list hs
  rw [Vals.ref1 r]
  cases rz with
  | cons r1 r2 =>
    cases r2
    cases r1
    refine max_dflt (I.ok.hd hc) hl.isList rv.ints (fun h0 g tk kg => ⟨.non, H, I.kept kg, rfl, ?_⟩) (fun h0 g tk t kg => ⟨.int (mxI ns), H, I.kept kg, ⟨_, rfl⟩, ?_⟩)
    · rw [if_pos h0] at q
      exact q
    · rw [if_neg h0] at q
      exact q
def tMaxD (K : PySem.W.Frag) (te : TE) : TE := tCKw (rMaxD K) (tCons te tNil) (tCons (tC .non) tNil)
theorem pe_maxD {e : Expr} {te : TE} {p p2 p3 pos : Pos} {j : Nat} (hc : X.calm = true) (hg : Gl X "max") (hm : X.mg "max" = none) (he : PE X e te) (s1 : backTo pos (starEach [e] X.env) = (false, eval e X.env) :: backTo pos (starEach [] X.env) := by rfl) (s2 : (backTo pos (starEach [e] X.env)).any (·.1) = false := by rfl)
    (s3 : starEach [e] X.env = (false, eval e X.env) :: starEach [] X.env := by rfl) : PE X (.Call (.Name "max" p) [e] [⟨some "default", .Constant .none j p2, p3⟩] pos) (tMaxD X.K te) :=
  pe_callBK (cr_maxDf hc) hg hm (by decide +kernel) (pa_cons he pa_nil s3) (pk_cons pe_non pk_nil) (by decide) (by decide) s1 s2 rfl rfl rfl
theorem ev_maxD {K : PySem.W.Frag} {σ : L2.St} {H : Hp} {ta : TE} {ns : List Int} (h : EvS K ta σ H (ns.map V.int)) : Ev (tMaxD K ta) σ H (if ns = [] then .non else .int (mxI ns)) := fun H1 e Q q =>
  h H1 e _ fun a H2 e2 hq => ⟨a, ns, rfl, rfl, hq, q H2 e2⟩
end
/-! ### list(reversed(xs)) -/
section
open RT
variable {prog : Program} {w : World} {A : Around} {E : Value → Shared → Prop} {s : Shared}
/-- a new list takes what a reverse iterator still gives -/
theorem take_rev {R : Result → Shared → Prop} {ri l S : Addr} {zs : Array Value} {c0 : Nat} (hh : A.handled = none) (ir : s.heap.IsRevIter ri l ((zs.size : Int) - 1)) (il : s.heap.IsList l zs) (hne : l ≠ ri) (hz : zs.size ≤ sizeLine) (atS : s.heap.get? S = some { cls := .type "list", data := .seq #[] c0 }) (Sri : S ≠ ri) (Sl : S ≠ l)
    (fin : ∀ (g : Heap) (tk : Nat) (acc : Array Value) (c : Nat), (∀ b o, b ≠ ri → b ≠ S → s.heap.get? b = some o → g.get? b = some o) → g.get? S = some { cls := .type "list", data := .seq acc c } → ItemsOf (fun i v => zs[zs.size - 1 - i]? = some v) acc zs.size → R (.ok (.ret .none)) { s with heap := g, toks := tk }) :
    wpAny (model prog w) A.in1 (Builtin.List.listExtendWith (.ref S) (.ref ri) .none) (fun fl s2 => match fl with | .done f => R (.ok f) s2 | .again c2 => c2.quiet = true ∧ codeAny (model prog w) A c2 R s2) (fun e s2 => R (.error e) s2) s := by
  have wk := (Walks.listRev (prog := prog) (w := w) (A := A.in1) hh ri l hne zs).toS
  have Sfp : S ∉ [ri, l] := by simp only [List.mem_cons, List.not_mem_nil, or_false, not_or]; exact ⟨Sri, Sl⟩
  have tyR : s.TypeIs (.ref ri) "list_reverseiterator" := ir.typeIs
  have same : Builtin.List.listSameRef (.ref S) (.ref ri) = false := by simp [Builtin.List.listSameRef, Sri]
  unfold Builtin.List.listExtendWith
  apply wpAny_bind
  apply wpAny_typeOf tyR
  rw [if_neg (by rw [same]; decide)]
  apply wpAny_bind
  apply wpAny_pyIter_revIter ir
  apply wpAny_bind
  apply wpAny_holding
  unfold Builtin.List.listLengthHint
  apply wpAny_bind
  apply wpAny_specialOf tyR nolen_lri
  show wpAny _ A.in1 (specialOf (Value.ref ri) (Str.ofString "__length_hint__") >>= _) _ _ _
  apply wpAny_bind
  apply wpAny_specialOf tyR hint_lri
  generalize hid : ("list_reverseiterator.__length_hint__" : String) = nm
  wp_delta
  rw [show splitId nm = some ("list_reverseiterator", "__length_hint__") from by subst hid; decide +kernel]
  subst hid
  apply wpAny_bind
  apply wpAny_isInstance (b := true) tyR (by rw [isSubtype_type]; kernel_rfl)
  apply wpAny_pure
  rw [if_neg (by decide)]
  have e0 : ((zs.size : Nat) : Int) - 1 - ((0 : Nat) : Int) = (zs.size : Int) - 1 := by omega
  refine wpAny_pure ⟨plainId_quiet F.plain_extend_loop _, codeAny_extend_loopS wk hz S Sfp _ zs.size 0 _ _ _ rfl (Nat.zero_le _) ⟨Nat.zero_le _, by rw [e0]; exact ir, il⟩ atS (ItemsOf.nil _) fun s2 acc c2 mv at2 its => ?_⟩
  rw [Moved.eq_with mv]
  refine fin s2.heap s2.toks acc c2 (fun b o b1 b2 e => mv.heap b o (fun hm => ?_) e) at2 its
  rcases List.mem_cons.mp hm with z | z
  · exact b2 z
  · exact b1 (List.mem_singleton.mp z)
theorem list_of_rev {Q : Value → Shared → Prop} {ri l : Addr} {zs : Array Value} (hh : A.handled = none) (ir : s.heap.IsRevIter ri l ((zs.size : Int) - 1)) (il : s.heap.IsList l zs) (hne : l ≠ ri) (hz : zs.size ≤ sizeLine)
    (fin : ∀ (g : Heap) (tk : Nat) (acc : Array Value) (c : Nat), (∀ b o, b ≠ ri → s.heap.get? b = some o → g.get? b = some o) → g.get? s.heap.objs.size = some { cls := .type "list", data := .seq acc c } → ItemsOf (fun i v => zs[zs.size - 1 - i]? = some v) acc zs.size → Q (.ref s.heap.objs.size) { s with heap := g, toks := tk }) :
    wpAny (model prog w) A (call (.type "list") [.ref ri]) Q E s := by
  refine callType_codes (Q₁ := fun u sA => u = .ref s.heap.objs.size ∧ sA = { s with heap := s.heap.push { cls := .type "list", data := .seq #[] } }) F.called_list (F.typeCall_list_1 _) F.entry_list_init (code_list_new _ ⟨rfl, rfl⟩) fun u sA hA => ?_
  obtain ⟨rfl, rfl⟩ := hA
  have at0 : (s.heap.push { cls := .type "list", data := .seq #[] }).get? s.heap.objs.size = some { cls := .type "list", data := .seq #[] } := Heap.get?_push_size _ rfl
  refine ⟨⟨_, at0, rfl⟩, F.args_list_init_2 _ _, ?_⟩
  obtain ⟨oi, hoi, _⟩ := id ir
  obtain ⟨ol, hol, _⟩ := id il
  have Si : s.heap.objs.size ≠ ri := Nat.ne_of_gt (Heap.lt_size hoi)
  have Sl : s.heap.objs.size ≠ l := Nat.ne_of_gt (Heap.lt_size hol)
  show wpAny _ _ (do let old ← Builtin.List.listItems (.ref s.heap.objs.size); Builtin.List.listUpdate (.ref s.heap.objs.size) (fun _ => #[]); letGo old.toList.reverse; Builtin.List.listExtendWith (.ref s.heap.objs.size) (.ref ri) .none) _ _ _
  apply wpAny_bind
  unfold Builtin.List.listItems
  apply wpAny_bind
  apply wpAny_seqItems at0 rfl
  apply wpAny_pure
  show wpAny _ _ (updateSeq s.heap.objs.size (fun _ => #[]) >>= fun _ => letGo (#[] : Array Value).toList.reverse >>= fun _ => Builtin.List.listExtendWith (.ref s.heap.objs.size) (.ref ri) .none) _ _ _
  apply wpAny_bind
  apply wpAny_updateSeq at0 rfl
  have at1 := Heap.get?_update_self (Obj.mapSeq (fun _ => (#[] : Array Value))) at0 rfl
  have up : ∀ b o, b ≠ s.heap.objs.size → s.heap.get? b = some o → ((s.heap.push { cls := .type "list", data := .seq #[] }).update s.heap.objs.size (Obj.mapSeq (fun _ => (#[] : Array Value)))).get? b = some o := fun b o hb e => (Heap.get?_update_other _ _ (Ne.symm hb)).trans (Heap.get?_push_of_some _ e)
  apply wpAny_bind
  apply wpAny_letGo
  refine take_rev (A := A.in1) hh (ir.at fun o e => up _ _ (Ne.symm Si) e) (il.at fun o e => up _ _ (Ne.symm Sl) e) hne hz at1 Si Sl fun g tk acc c kg at2 its => ?_
  exact ⟨rfl, fin g tk acc c (fun b o b1 e => kg b o b1 (Nat.ne_of_lt (Heap.lt_size e)) (up b o (Nat.ne_of_lt (Heap.lt_size e)) e)) at2 its⟩
end
section
open RT
variable {X : Cx}
def tListRev (K : PySem.W.Frag) (te : TE) : TE := fun σ H Q => te σ H fun v H1 => ∃ (a : Addr) (xs : List V), v = .ref a ∧ SqL K H1 a xs ∧ ∀ q, H1 q = none → Q (.ref q) (upd H1 q (.lst xs.reverse))
theorem pe_listRev {e : Expr} {te : TE} {p p2 pos pos2 : Pos} (hc : X.calm = true) (hg : Gl X "list") (hm : X.mg "list" = none) (hg2 : Gl X "reversed") (hm2 : X.mg "reversed" = none) (he : PE X e te)
    (s1 : starEach [e] X.env = (false, eval e X.env) :: starEach [] X.env := by rfl)
    (s2 : starEach [.Call (.Name "reversed" p2) [e] [] pos2] X.env = (false, eval (.Call (.Name "reversed" p2) [e] [] pos2) X.env) :: starEach [] X.env := by rfl) :
    PE X (.Call (.Name "list" p) [.Call (.Name "reversed" p2) [e] [] pos2] [] pos) (tListRev X.K te) := by
  refine ⟨fun pins s σ H Q I h => ?_⟩
  refine Call_ (ld_blt I hg hm boot_list (PyProof.Rows.callWith_type1 (args_cons (Call_ (ld_blt I hg2 hm2 PyProof.Rows.boot_reversed (PyProof.Rows.callWith_type1 (args_cons (thn (he.run pins s σ H _ I h) fun u sA ⟨v, H1, I1, r1, q1⟩ => args_nil ?_) s1) s1 rfl))) s2) s2 rfl))
  obtain ⟨a, xs, rfl, hq, q⟩ := q1
  obtain rfl : u = Value.ref a := r1
  obtain ⟨its, rv, pl, hz⟩ := I1.list hq
  refine call_reversed_list pl.isList (args_nil ?_)
  have k0 : ∀ b o, sA.heap.get? b = some o → (sA.heap.push (revObj a ((its.toArray.size : Int) - 1))).get? b = some o := fun b o z => Heap.get?_push_of_some _ z
  have I2 : Inv X pins σ H1 { sA with heap := sA.heap.push (revObj a ((its.toArray.size : Int) - 1)) } := I1.kept (t' := sA.toks) k0
  have hl := pl.isList
  obtain ⟨ol, hol, _⟩ := id hl
  have hz2 : its.toArray.size ≤ sizeLine := by rw [List.size_toArray, ← rv.length]; exact hz
  refine list_of_rev (s := { sA with heap := sA.heap.push (revObj a ((its.toArray.size : Int) - 1)) }) (I1.ok.hd hc) ⟨_, Heap.get?_push_size _ rfl, rfl, rfl⟩ (hl.push _) (Nat.ne_of_lt (Heap.lt_size hol)) hz2 fun g tk acc c kg at2 hi => ?_
  have fr : H1 (sA.heap.push (revObj a ((its.toArray.size : Int) - 1))).objs.size = none := I2.hok.fresh (Nat.le_refl _)
  have nS : sA.heap.objs.size ≠ (sA.heap.push (revObj a ((its.toArray.size : Int) - 1))).objs.size := by
    rw [Heap.size_push]
    omega
  have hlen : xs.reverse.length ≤ sizeLine := by rw [List.length_reverse]; exact hz
  have midS : ((sA.heap.push (revObj a ((its.toArray.size : Int) - 1))).push { cls := .type "list", data := .seq acc c }).get? (sA.heap.push (revObj a ((its.toArray.size : Int) - 1))).objs.size = some { cls := .type "list", data := .seq acc c } := Heap.get?_push_size _ rfl
  have I3 : Inv X pins σ (upd H1 (sA.heap.push (revObj a ((its.toArray.size : Int) - 1))).objs.size (.lst xs.reverse)) { sA with heap := (sA.heap.push (revObj a ((its.toArray.size : Int) - 1))).push { cls := .type "list", data := .seq acc c }, toks := tk } :=
    I2.laid (t' := tk) (fun b o z => Heap.get?_push_of_some _ z) (Nat.le_refl _) ⟨hlen, acc.toList, c, vals_rev rv hi, by rw [Array.toArray_toList]; exact midS⟩
  obtain ⟨f0, f1, f2, f3, f4, f5⟩ := I1.fpOk (H' := upd H1 (sA.heap.push (revObj a ((its.toArray.size : Int) - 1))).objs.size (.lst xs.reverse)) (b := sA.heap.objs.size) (Nat.le_refl _) (by rw [upd_ne nS]; exact I1.hok.fresh (Nat.le_refl _))
  have I4 : Inv X pins σ (upd H1 (sA.heap.push (revObj a ((its.toArray.size : Int) - 1))).objs.size (.lst xs.reverse)) { sA with heap := g, toks := tk } := by
    refine Inv.turned (s := { sA with heap := (sA.heap.push (revObj a ((its.toArray.size : Int) - 1))).push { cls := .type "list", data := .seq acc c }, toks := tk }) (t' := tk) (it := sA.heap.objs.size) I3 (fun b o hb z => ?_) f0 f1 f3 f4 f5
    by_cases hS : b = (sA.heap.push (revObj a ((its.toArray.size : Int) - 1))).objs.size
    · subst hS
      rw [midS] at z
      rw [← z]
      exact at2
    · refine kg b o hb ?_
      rcases Heap.get?_push_cases z with ⟨w1, _⟩ | w
      · exact absurd w1 hS
      · exact w
  exact ⟨.ref _, _, I4, rfl, q _ fr⟩
theorem el_rev {K : PySem.W.Frag} {σ : L2.St} {H : Hp} {ta : TE} {xs : List V} (h : EvS K ta σ H xs) : EvL (tListRev K ta) σ H xs.reverse := fun H1 e Q q =>
  h H1 e _ fun a H2 e2 hq => ⟨a, xs, rfl, hq, fun p hp => q p _ (fresh_back e2 hp) (e2.trans (Ex.new hp)) upd_same⟩
end
/-! ### len(set(xs)) of ints -/
section
open RZ
/-- how many different ones -/
def kinds (ns : List Int) : Nat := (PyProof.Rows.firstMet (fun i => ns.getD i 0) ns.length).length
theorem kinds_nodup {ns : List Int} (h : ns.Nodup) : kinds ns = ns.length := by
  unfold kinds
  rw [firstMet_nodup h ns.length (Nat.le_refl _), List.take_length]
def tLenSet (K : PySem.W.Frag) (ta : TE) : TE := fun σ H Q => ta σ H fun x H1 => ∃ (l : Addr) (ns : List Int), x = .ref l ∧ SqL K H1 l (ns.map V.int) ∧ ns.length ≤ 4000 ∧ Q (.int (kinds ns : Nat)) H1
theorem pe_lenSet {X : Cx} {a : Expr} {ta : TE} {p p2 q pos : Pos} (hc : X.calm = true) (hg : Gl X "len") (hm : X.mg "len" = none) (hg2 : Gl X "set") (hm2 : X.mg "set" = none) (ha : PE X a ta)
    (na : starEach [a] X.env = (false, eval a X.env) :: starEach [] X.env := by rfl) : PE X (.Call (.Name "len" p) [.Call (.Name "set" p2) [a] [] q] [] pos) (tLenSet X.K ta) := by
  refine ⟨fun pins s σ H Q I h => Call_ (ld_blt I hg hm boot_len (PyProof.Rows.callWith_builtin1 (PyProof.Rows.args_cons (Call_ (ld_blt I hg2 hm2 boot_set (PyProof.Rows.callWith_type1 (PyProof.Rows.args_cons (thn (ha.run pins s σ H _ I h) fun v sA ⟨x, H1, I1, r1, q1⟩ => PyProof.Rows.args_nil ?_) na) na rfl))) rfl) rfl rfl))⟩
  obtain ⟨l, ns, rfl, hq, hl, q1⟩ := q1
  cases r1
  obtain ⟨its, r, pl, hz⟩ := I1.list hq
  have hlen : its.toArray.size = ns.length := by rw [List.size_toArray, ← r.length, List.length_map]
  have hfl := PyProof.Rows.firstMet_length_le (fun i => ns.getD i 0) ns.length
  refine call_set_list (I1.ok.hd hc) pl.isList (by simpa using intsAre_vals r) (by rw [hlen]; unfold scanBound; omega) fun g tk hS hk => PyProof.Rows.args_nil ?_
  rw [hlen] at hS
  obtain ⟨o, es, ep, t, ho, hex, hd, _, _, _, hf, hn⟩ := hS
  have I2 : Inv X pins σ H1 { sA with heap := g, toks := tk } := I1.kept fun b o e => hk b o (Heap.lt_size e) e
  exact call_len_set ho hex hd hf (by rw [hn] <;> omega) ⟨.int (kinds ns : Nat), H1, I2.tok _, ⟨_, by rw [hn]; rfl⟩, q1⟩
theorem ev_lenSet {K : PySem.W.Frag} {σ : L2.St} {H : Hp} {ta : TE} {ns : List Int} (h : EvS K ta σ H (ns.map V.int)) (hl : ns.length ≤ 4000) : Ev (tLenSet K ta) σ H (.int (kinds ns : Nat)) := fun H1 e Q q =>
  h H1 e _ fun a H2 e2 hq => ⟨a, ns, rfl, hq, hl, q H2 e2⟩
end
/-! ### sorted(range(n), key=lambda k: (k + 1) * (1 + cell % 12) % 13), the lambda made here: a new list, some arrangement -/
section
open PySem.W PySem.Calls LamX
variable {prog : Program} {w : World} {A : Around} {E : Value → Shared → Prop} {s : Shared}
def keyF (c x : Int) : Int := ((x + 1) * (1 + c.fmod 12)).fmod 13
theorem fmod12 (c : Int) : 0 ≤ c.fmod 12 ∧ c.fmod 12 < 12 := by
  rw [Int.fmod_eq_emod_of_nonneg c (by decide)]
  exact ⟨Int.emod_nonneg _ (by decide), Int.emod_lt_of_pos _ (by decide)⟩
abbrev keyE (p1 p2 p3 p4 p5 p6 p7 p8 p9 p10 p11 : Pos) (j1 j2 j3 j4 : Nat) : Expr :=
  .BinOp (.BinOp (.BinOp (.Name "_law_k" p1) .Add (.Constant (.int 1) j1 p2) p3) .Mult (.BinOp (.Constant (.int 1) j2 p4) .Add (.BinOp (.Name "_law_cell" p5) .Mod (.Constant (.int 12) j3 p6) p7) p8) p9) .Mod (.Constant (.int 13) j4 p10) p11
theorem key_body {env : Env} {m : Str → Option Value} {c x : Int} {t tc : Tok} {cl : Addr} {Q : Value → Shared → Prop} {p1 p2 p3 p4 p5 p6 p7 p8 p9 p10 p11 : Pos} {j1 j2 j3 j4 : Nat} (hk : env.scope.kind = .function) (hkx : env.kindOf "_law_k" = some .local) (hkc : env.kindOf "_law_cell" = some .free)
    (hn : s.heap.Ns env.locals m) (hx : m "_law_k" = some (.int x t)) (hc : env.cells.lookup ("_law_cell" : Str) = some cl) (hv : s.heap.IsCell cl (some (.int c tc))) (h : ∀ t' tk, Q (.int (keyF c x) t') { s with toks := tk }) :
    wpAny (model prog w) A (eval (keyE p1 p2 p3 p4 p5 p6 p7 p8 p9 p10 p11 j1 j2 j3 j4) env) Q E s := by
  refine wpAny_BinOp ?_
  refine wpAny_BinOp ?_
  refine wpAny_BinOp ?_
  refine wpAny_Name (wpAny_loadName_local hk hkx hn hx ?_)
  refine wpAny_Constant_int ?_
  refine PyProof.Rows.add_int ?_
  refine wpAny_BinOp ?_
  refine wpAny_Constant_int ?_
  refine wpAny_BinOp ?_
  refine wpAny_Name (wpAny_loadName_free hk hkc hc hv ?_)
  refine wpAny_Constant_int ?_
  refine PyProof.Rows.mod_int (by decide) ?_
  refine PyProof.Rows.add_int ?_
  refine mul_int ?_ (CMul.ok (.inr ?_))
  · refine wpAny_Constant_int ?_
    exact PyProof.Rows.mod_int (by decide) (h _ _)
  · have := fmod12 c
    omega
/-- the call of such a lambda -/
theorem key_call {f c' cl : Addr} {pm ctv : Value} {params : Arguments} {scope : Scope} {cells : List (Str × Addr)} {qual : Str} {c x : Int} {t tc : Tok} {p1 p2 p3 p4 p5 p6 p7 p8 p9 p10 p11 : Pos} {j1 j2 j3 j4 : Nat}
    (hroom : A.depth < recursionLimit) (hlim : s.heap.NoLimit) (hf : s.heap.get? f = some (kla_obj "<lambda>" qual params (keyE p1 p2 p3 p4 p5 p6 p7 p8 p9 p10 p11 j1 j2 j3 j4) scope cells pm c' ctv)) (hrec : s.heap.CodeRec (.ref c') qual)
    (hbind : ∀ (u : Value), bindArgs (kla_fn "<lambda>" qual params (keyE p1 p2 p3 p4 p5 p6 p7 p8 p9 p10 p11 j1 j2 j3 j4) scope cells pm (.ref c') ctv) ⟨[u], []⟩ = pure [(("_law_k" : Str), u)])
    (hk : scope.kind = .function) (hco : scope.isCoroutine = false) (hgen : scope.isGenerator = false) (hnc : ∀ y ∈ scope.names, y.2 ≠ .cell) (hlk : scope.names.lookup ("_law_k" : Str) = some .local) (hlc : scope.names.lookup ("_law_cell" : Str) = some .free)
    (hcl : cells.lookup ("_law_cell" : Str) = some cl) (hv : s.heap.IsCell cl (some (.int c tc))) :
    wpAny (model prog w) A (call (.ref f) [.int x t]) (KeyPure (.int (keyF c x)) s) (fun _ _ => False) s := by
  refine wpAny_call (kla_callFunE hroom hf rfl hco hgen rfl hrec ?_)
  rw [hbind]
  refine wpAny_pure (wpAny_newFunctionEnv hnc (fun y hy => ?_) (fun h₁ hns hsb => ⟨hlim.fresh _ hsb, ?_⟩) hk)
  · have : y = (("_law_k" : Str), Value.int x t) := by simpa using hy
    rw [this]
    exact hlk
  have kp : ∀ b o, s.heap.get? b = some o → h₁.get? b = some o := fun b o e => hsb.extBut b o (Nat.ne_of_lt (Heap.lt_size e)) (Heap.get?_push_of_some _ e)
  refine kla_codeExpr ?_
  refine key_body (m := fun y => [(("_law_k" : Str), Value.int x t)].reverse.lookup y) (c := c) (x := x) (t := t) (tc := tc) (cl := cl) hk hlk hlc hns ?_ hcl ?_ fun t' tk => ?_
  · rfl
  · obtain ⟨o, ho, hd⟩ := hv
    exact ⟨o, kp _ _ ho, hd⟩
  · exact ⟨h₁, tk, rfl, kp, Reads.int _ _⟩
end
section
variable {X : Cx}
theorem cr_range1 : CallR X (.type "range") (fun vs H Q => ∃ j, vs = [V.int j] ∧ ∀ p, H p = none → Q (.ref p) (upd H p (.rng 0 j))) := by
  intro pins s σ H vs us Q I r h
  obtain ⟨j, rfl, q⟩ := h
  cases r with
  | cons r1 r2 =>
    cases r2
    obtain ⟨t, rfl⟩ := r1
    refine call_range_1 ⟨.ref s.heap.objs.size, upd H s.heap.objs.size (.rng 0 j), I.laid (t' := s.toks + 1 + 1) (fun b o e => Heap.get?_push_of_some _ e) (Nat.le_refl _) ?_, rfl, q _ (I.hok.fresh (Nat.le_refl _))⟩
    exact ⟨_, _, _, Heap.get?_push_size _ rfl⟩
end
section
open PySem.W PySem.Calls LamX
variable {X : Cx}
def tSortLam (T : List (Addr × Str)) (ic : Nat) (te : TE) : TE := fun σ H Q => te σ H fun x H1 => ∃ (r : Addr) (n c : Int), x = .ref r ∧ H1 r = some (.rng 0 n) ∧ 0 ≤ n ∧ n ≤ 1000 ∧ σ[ic]? = some (some (.int c)) ∧ Tabs T H1 ∧
  ∀ (os : List Int) (p : Addr) (H2 : Hp), ExtN H1 H2 → os.Perm ((List.range n.toNat).map Int.ofNat) → H2 p = none → Q (.ref p) (upd H2 p (.lst (os.map V.int)))
theorem each_ints : ∀ {vs : List Value} {ns : List Int}, Vals (ns.map V.int) vs → EachIs (fun (v : Value) (x : Int) => ∃ t, v = .int x t) vs ns
  | [], [], _ => .nil
  | v :: vs, n :: ns, h => by
    cases h with
    | cons r t => exact .cons r (each_ints t)
  | [], _ :: _, h => by cases h
  | _ :: _, [], h => by cases h
theorem vals_each : ∀ {vs : List Value} {ns : List Int}, EachIs (fun (v : Value) (x : Int) => ∃ t, v = .int x t) vs ns → Vals (ns.map V.int) vs
  | _, _, .nil => .nil
  | _, _, .cons r t => .cons r (vals_each t)
theorem pe_sortedLam {T : List (Addr × Str)} {c0 P0 : Addr} {e : Expr} {te : TE} {params : Arguments} {scope : Scope} {ic k : Nat} {p0 lpos kpos pos : Pos} {p1 p2 p3 p4 p5 p6 p7 p8 p9 p10 p11 : Pos} {j1 j2 j3 j4 : Nat} (hc : X.calm = true) (hg : Gl X "sorted") (hm : X.mg "sorted" = none)
    (TB : TabB X.base X.mg c0 P0) (hcode : X.env.code = .ref c0) (hmT : (P0, X.env.qual ++ "<lambda>") ∈ T) (hu : ∀ p ∈ T, p.1 = P0 → p.2 = X.env.qual ++ "<lambda>") (hdef : defaultsOf params X.env = ([], []))
    (hfree : ∀ y ∈ scope.names, y.2 = .free → X.env.scope.names.lookup y.1 = some .cell ∨ X.env.scope.names.lookup y.1 = some .free)
    (hbind : ∀ (q : Str) (cl : List (Str × Addr)) (pm cv ctv u : Value), bindArgs (kla_fn "<lambda>" q params (keyE p1 p2 p3 p4 p5 p6 p7 p8 p9 p10 p11 j1 j2 j3 j4) scope cl pm cv ctv) ⟨[u], []⟩ = pure [(("_law_k" : Str), u)])
    (hk : scope.kind = .function) (hco : scope.isCoroutine = false) (hgen : scope.isGenerator = false) (hnc : ∀ y ∈ scope.names, y.2 ≠ .cell) (hlk : scope.names.lookup ("_law_k" : Str) = some .local) (hlc : scope.names.lookup ("_law_cell" : Str) = some .free)
    (hkc : X.env.scope.names.lookup ("_law_cell" : Str) = some .cell) (hN : X.N[ic]? = some ("_law_cell" : Str)) (hr : Room (k + 1) X.A) (he : PE X e te)
    (s1 : backTo pos (starEach [e] X.env) = (false, eval e X.env) :: backTo pos (starEach [] X.env) := by rfl) (s2 : (backTo pos (starEach [e] X.env)).any (·.1) = false := by rfl)
    (s3 : starEach [e] X.env = (false, eval e X.env) :: starEach [] X.env := by rfl) :
    PE X (.Call (.Name "sorted" p0) [e] [⟨some "key", .Lambda params (keyE p1 p2 p3 p4 p5 p6 p7 p8 p9 p10 p11 j1 j2 j3 j4) scope lpos, kpos⟩] pos) (tSortLam T ic te) := by
  refine ⟨fun pins s σ H Q I h => ?_⟩
  have hfr : ∀ y ∈ scope.names, y.2 = .free → ∃ c, X.env.cells.lookup y.1 = some c := fun y hy e => (hfree y hy e).elim (fun z => I.ok.has _ (.inl z)) fun z => I.ok.has _ (.inr z)
  refine wpAny_Call_Name_kw (ld_blt I hg hm (show bootBuiltins "sorted" = some (.builtin "sorted") by decide +kernel) ?_)
  refine PyProof.Rows.callWith_kw ?_ s1 s2 rfl rfl
  refine args_cons (thn (he.run pins s σ H _ I h) fun u sA ⟨x, H1, I1, r1, q1⟩ => args_nil ?_) s3
  obtain ⟨r, n, c, rfl, hrng, hn0, hn1, hσ, hT, q⟩ := q1
  obtain rfl : u = Value.ref r := r1
  show wpAny _ _ (evalAll [do let v ← eval (.Lambda params (keyE p1 p2 p3 p4 p5 p6 p7 p8 p9 p10 p11 j1 j2 j3 j4) scope lpos) X.env; standAt pos; pure v]) _ _ sA
  refine wpAny_evalAll_cons (wpAny_bind (lam_make2 I1 TB hcode hmT hu hT hdef hfr fun f c' pm ctv H2 sB I2 eN T2 hf hfn hfrs hcd => wpAny_bind (wpAny_standAt (wpAny_pure (wpAny_evalAll_nil ?_)))))
  show wpAny _ _ (call (.builtin "sorted") [.ref r] [(Str.ofString "key", .ref f)]) _ _ sB
  have hrng2 := eN r _ hrng (fun ps z => by cases z)
  obtain ⟨t1, t2, t3, hro⟩ := I2.hok r _ hrng2
  obtain ⟨⟨oc, fs, tq, hoc, hdc, hvc⟩, _, _⟩ := I2.hok c' _ hcd
  -- the captured cell's value
  obtain ⟨m, hns, hl⟩ := I2.loc
  obtain ⟨cv, rcv, hlook⟩ := hl ic "_law_cell" (.int c) hN hσ (.inr (.inl hkc))
  obtain ⟨tc, rfl⟩ := rcv
  have hcell : ∃ cl, X.env.cells.lookup ("_law_cell" : Str) = some cl ∧ sB.heap.IsCell cl (some (.int c tc)) := by
    rcases hlook with ⟨z, _⟩ | ⟨_, cl, h1, h2⟩
    · have z' : X.env.scope.names.lookup ("_law_cell" : Str) = some .local := z
      rw [hkc] at z'
      cases z'
    · exact ⟨cl, h1, h2⟩
  obtain ⟨cl, hcl, hcv⟩ := hcell
  have hclo : (cloFrom X.env.cells scope.names []).lookup ("_law_cell" : Str) = some cl := by
    have hy : (("_law_cell" : Str), NameKind.free) ∈ scope.names := PySem.mem_of_lookup hlc
    obtain ⟨c2, h2⟩ := mem_lookup (cloFrom_has (cells := X.env.cells) (acc := []) hy)
    rcases cloFrom_mem (PySem.mem_of_lookup h2) with z | ⟨_, z⟩
    · cases z
    · rw [h2, z, hcl]
      rfl
  refine call_function_entry_kw PyProof.Rows.kind_sorted PyProof.Rows.plain_sorted PyProof.Rows.entry_sorted (PyProof.Rows.ksk_s1 _ _) ?_
  unfold Builtin.«sorted»
  refine wpAny_bind (m := checkCount "sorted" 1 1 _) (wpAny_pure ?_)
  have hR : IsRange sB.heap r 0 n 1 t1 t2 t3 := hro
  refine wpAny_bind (collect_range (n := (n - 0).toNat) (show X.A.in1.handled = none from I2.ok.hd hc) hR (small_one (by omega) (by omega) (by omega) (by omega)) (rangeSize_nat 0 n) (by omega) fun h' tk acc hkp hi => ?_)
  have hV : Vals (((List.range n.toNat).map Int.ofNat).map V.int) acc.toList := by
    have z := vals_rg hi
    have e2 : rgV 0 n = ((List.range n.toNat).map Int.ofNat).map V.int := by
      unfold rgV
      rw [List.map_map, Int.sub_zero]
      refine List.map_congr_left fun i _ => ?_
      show V.int (0 + (i : Int)) = V.int (i : Int)
      rw [Int.zero_add]
    rw [e2] at z
    exact z
  have hlen : acc.toList.length = n.toNat := by rw [← hV.length]; simp
  have hz : acc.toList.length ≤ sizeLine := by rw [hlen, sizeLine_eq]; omega
  refine wpAny_bind (wpAny_newList ?_ hz)
  have keep0 : ∀ b o, sB.heap.get? b = some o → (h'.push { cls := .type "list", data := .seq acc.toList.toArray }).get? b = some o := fun b o e => Heap.get?_push_of_some _ (hkp b o e)
  refine wpAny_bind (wpAny_holding (PyProof.Rows.wpAny_call_entry_kw PyProof.Rows.slot_list_sort ⟨_, Heap.get?_push_size _ rfl, rfl⟩ PyProof.Rows.entry_list_sort ?body (PyProof.Rows.ksk_l1 _ _)))
  case body =>
    rw [PyProof.Rows.ksk_t1]
    refine wpAny_mono (keyH_tree (s := { sB with heap := h'.push { cls := .type "list", data := .seq acc.toList.toArray }, toks := tk }) (b := false) (vs := acc.toList) (kz := ((List.range n.toNat).map Int.ofNat).map fun x => PyData.int (keyF c x)) (Heap.get?_push_size _ rfl) (by rw [hlen]; simp) hz ?al ?so ?un
      (keyH_turns (k := fun x => PyData.int (keyF c x)) (R := fun (v : Value) (x : Int) => ∃ t, v = .int x t) (each_ints hV) fun v x hvx hx h2 tk2 kp => ?turn) fun h3 tk3 out cc kp hD ko => ?fin) (fun f s h => h) fun _ _ h => h
    case al =>
      intro d hd d' hd'
      obtain ⟨x, _, rfl⟩ := List.mem_map.mp hd
      obtain ⟨y, _, rfl⟩ := List.mem_map.mp hd'
      rfl
    case so =>
      refine .inr fun d hd => ?_
      obtain ⟨x, _, rfl⟩ := List.mem_map.mp hd
      exact ⟨fun z => PyData.noConfusion z, fun xs z => PyData.noConfusion z⟩
    case un =>
      intro d hd
      obtain ⟨x, _, rfl⟩ := List.mem_map.mp hd
      have := hr.un
      show X.A.units + 1 + 1 + PyData.depth (.int _) < cLine
      have e : PyData.depth (.int (keyF c x)) = 0 := by rfl
      omega
    case turn =>
      obtain ⟨t, rfl⟩ := hvx
      have kpo : ∀ b o, sB.heap.get? b = some o → h2.get? b = some o := fun b o e => kp b o (Nat.ne_of_lt (Heap.lt_size (hkp b o e))) (keep0 b o e)
      refine key_call (cl := cl) (tc := tc) (by have := hr.dp; show X.A.depth < _; omega) (I2.nolimit.keeps kpo) (kpo _ _ hf) ⟨c', oc, fs, tq, rfl, kpo _ _ hoc, hdc, hvc⟩ (fun u => hbind _ _ _ _ _ u) hk hco hgen hnc hlk hlc hclo ?_
      obtain ⟨o, ho, hd⟩ := hcv
      exact ⟨o, kpo _ _ ho, hd⟩
    case fin =>
      have I3 : Inv X pins σ H2 { sB with heap := h', toks := tk } := I2.kept hkp
      have hE := keyedOut_each (fun x => PyData.int (keyF c x)) ko (each_ints hV)
      have hP : (((List.range n.toNat).map Int.ofNat).mergeSort (dataLe false fun x => PyData.int (keyF c x))).Perm ((List.range n.toNat).map Int.ofNat) := List.mergeSort_perm _ _
      have hol : out.length = n.toNat := by rw [hE.length, hP.length_eq]; simp
      have fresh : H2 h'.objs.size = none := I3.hok.fresh (Nat.le_refl _)
      refine ⟨_, rfl, wpAny_pure ⟨_, rfl, .ref h'.objs.size, upd H2 h'.objs.size (.lst ((((List.range n.toNat).map Int.ofNat).mergeSort (dataLe false fun x => PyData.int (keyF c x))).map V.int)), I3.laid (t' := tk3) (fun b o e => kp b o (Nat.ne_of_lt (Heap.lt_size e)) (Heap.get?_push_of_some _ e)) (Nat.le_refl _) ⟨?_, out, cc, vals_each hE, hD⟩, rfl, q _ _ H2 eN hP fresh⟩⟩
      rw [List.length_map, hP.length_eq, List.length_map, List.length_range, sizeLine_eq]
      omega
end
def top (i : Nat) : Stmt := PySem.Challenge.pw_meanpace_k06_a_ring_and_its_mean.main.body.getD i (.Pass ⟨0, 0, 0, 0⟩)
/-- what an own class of exceptions tells: D it, B the one that the clause names -/
structure ExcAt (K : PySem.W.Frag) (D B : Addr) : Prop where
  x : PySem.W.excIn K D He.veBase "ValueError.__new__" = true
  k : PySem.W.keepIn K (.ref D) = true
  b : PySem.W.subIn K (.ref D) (.type "BaseException") = some true
  t : PySem.W.typeIn K (.ref D) = some (.type "type")
  m : PySem.W.exmOne K (.ref D) (.ref B) = some true
  v : PySem.W.kitOne K (.ref D) (.type "ValueError") = some true
  c : L2.ExcC K D
def KitAt (K : PySem.W.Frag) (D : Addr) (l : List (Addr × Bool)) : Prop := ∀ q ∈ l, PySem.W.kitOne K (.ref D) (.ref q.1) = some q.2
def excB (K : PySem.W.Frag) (D B : Addr) : Bool :=
  PySem.W.excIn K D He.veBase "ValueError.__new__" && (PySem.W.keepIn K (.ref D) && (decide (PySem.W.subIn K (.ref D) (.type "BaseException") = some true) && (decide (PySem.W.typeIn K (.ref D) = some (.type "type")) && (decide (PySem.W.exmOne K (.ref D) (.ref B) = some true) &&
  (decide (PySem.W.kitOne K (.ref D) (.type "ValueError") = some true) && (He.eqO (PySem.W.findIn K (.ref D) "__getattribute__") (some (some (.builtin "BaseException.__getattribute__"))) && (He.eqO (PySem.W.findIn K (.ref D) "__getattr__") (some none) && (PySem.W.hasDictIn K D &&
  (He.eqO (PySem.W.findIn K (.ref D) "__class__") (some (some (.builtin "object.__class__"))) && (He.eqO (PySem.W.specialIn K (.builtin "object.__class__") "__get__") (some (some (.builtin "getset_descriptor.__get__"))) &&
  (decide (PySem.W.takesIn K (.builtin "object.__class__") = some true) && decide (PySem.W.mroIn K D (.type "object") = some true))))))))))))
theorem excB_ok {K : PySem.W.Frag} {D B : Addr} (h : excB K D B = true) : ExcAt K D B := by
  obtain ⟨h1, h⟩ := He.ba h
  obtain ⟨h2, h⟩ := He.ba h
  obtain ⟨h3, h⟩ := He.ba h
  obtain ⟨h4, h⟩ := He.ba h
  obtain ⟨h5, h⟩ := He.ba h
  obtain ⟨h6, h⟩ := He.ba h
  obtain ⟨h7, h⟩ := He.ba h
  obtain ⟨h8, h⟩ := He.ba h
  obtain ⟨h9, h⟩ := He.ba h
  obtain ⟨h10, h⟩ := He.ba h
  obtain ⟨h11, h⟩ := He.ba h
  obtain ⟨h12, h13⟩ := He.ba h
  exact ⟨h1, h2, of_decide_eq_true h3, of_decide_eq_true h4, of_decide_eq_true h5, of_decide_eq_true h6, ⟨He.eqO_ok h7, He.eqO_ok h8, of_decide_eq_true h3, h9, He.eqO_ok h10, He.eqO_ok h11, of_decide_eq_true h12, of_decide_eq_true h13⟩⟩
def kitB1 (K : PySem.W.Frag) (D : Addr) (l : List (Addr × Bool)) : Bool := l.all fun q => decide (PySem.W.kitOne K (.ref D) (.ref q.1) = some q.2)
theorem kitB_ok {K : PySem.W.Frag} {D : Addr} {l : List (Addr × Bool)} (h : kitB1 K D l = true) : KitAt K D l := fun q hq => of_decide_eq_true (List.all_eq_true.mp h q hq)

structure Txt (K : PySem.W.Frag) (mg : Str → Option Value) where
  n_ValueError : mg "ValueError" = none
  n_all : mg "all" = none
  n_bool : mg "bool" = none
  n_enumerate : mg "enumerate" = none
  n_int : mg "int" = none
  n_isinstance : mg "isinstance" = none
  n_len : mg "len" = none
  n_list : mg "list" = none
  n_max : mg "max" = none
  n_min : mg "min" = none
  n_range : mg "range" = none
  n_reversed : mg "reversed" = none
  n_set : mg "set" = none
  n_sorted : mg "sorted" = none
  n_tuple : mg "tuple" = none
  g_MOST_MEETINGS : ∃ t, mg "MOST_MEETINGS" = some (.int 12 t)
  g_MOST_WAYS : ∃ t, mg "MOST_WAYS" = some (.int 60 t)
  g_GREATEST : ∃ t, mg "GREATEST" = some (.int 9999 t)
  a_PaceError : Addr
  g_PaceError : mg "PaceError" = some (.ref a_PaceError)
  a_BadCount : Addr
  g_BadCount : mg "BadCount" = some (.ref a_BadCount)
  a_NoMeeting : Addr
  g_NoMeeting : mg "NoMeeting" = some (.ref a_NoMeeting)
  a_BadDelay : Addr
  g_BadDelay : mg "BadDelay" = some (.ref a_BadDelay)
  a_Apart : Addr
  g_Apart : mg "Apart" = some (.ref a_Apart)
  a_NoRing : Addr
  g_NoRing : mg "NoRing" = some (.ref a_NoRing)
  a_BadPace : Addr
  g_BadPace : mg "BadPace" = some (.ref a_BadPace)
  a_Web : Addr
  g_Web : mg "Web" = some (.ref a_Web)
  a_lowest : Addr
  d_lowest : FuncData
  F_lowest : FunD K "lowest" "lowest" (defArgs (top 9)) (defBody (top 9)) (defScope (top 9)) [] [] a_lowest d_lowest
  b_lowest : Binds K d_lowest ["number", "divisor"] []
  g_lowest : mg "lowest" = some (.ref a_lowest)
  a_mean : Addr
  d_mean : FuncData
  F_mean : FunD K "mean" "mean" (defArgs (top 10)) (defBody (top 10)) (defScope (top 10)) [] [] a_mean d_mean
  b_mean : Binds K d_mean ["web", "ring"] []
  g_mean : mg "mean" = some (.ref a_mean)
  a_rounds : Addr
  d_rounds : FuncData
  F_rounds : FunD K "rounds" "rounds" (defArgs (top 12)) (defBody (top 12)) (defScope (top 12)) [] [] a_rounds d_rounds
  b_rounds : Binds K d_rounds ["web", "number", "divisor"] []
  g_rounds : mg "rounds" = some (.ref a_rounds)
  a_step_back : Addr
  d_step_back : FuncData
  F_step_back : FunD K "step_back" "step_back" (defArgs (top 13)) (defBody (top 13)) (defScope (top 13)) [] [] a_step_back d_step_back
  b_step_back : Binds K d_step_back ["web", "number", "divisor", "gains", "meeting", "goal"] []
  g_step_back : mg "step_back" = some (.ref a_step_back)
  a_ring_of : Addr
  d_ring_of : FuncData
  F_ring_of : FunD K "ring_of" "ring_of" (defArgs (top 14)) (defBody (top 14)) (defScope (top 14)) [] [] a_ring_of d_ring_of
  b_ring_of : Binds K d_ring_of ["walk"] []
  g_ring_of : mg "ring_of" = some (.ref a_ring_of)
  a_slower : Addr
  d_slower : FuncData
  F_slower : FunD K "slower" "slower" (defArgs (top 15)) (defBody (top 15)) (defScope (top 15)) [] [] a_slower d_slower
  b_slower : Binds K d_slower ["web", "number", "divisor"] []
  g_slower : mg "slower" = some (.ref a_slower)
  a_first_ring : Addr
  d_first_ring : FuncData
  F_first_ring : FunD K "first_ring" "first_ring" (defArgs (top 16)) (defBody (top 16)) (defScope (top 16)) [] [] a_first_ring d_first_ring
  b_first_ring : Binds K d_first_ring ["web"] []
  g_first_ring : mg "first_ring" = some (.ref a_first_ring)
  a_pace : Addr
  d_pace : FuncData
  F_pace : FunD K "pace" "pace" (defArgs (top 17)) (defBody (top 17)) (defScope (top 17)) [] [] a_pace d_pace
  b_pace : Binds K d_pace ["web"] []
  g_pace : mg "pace" = some (.ref a_pace)
  a_shape : Addr
  d_shape : FuncData
  F_shape : FunD K "shape" "shape" (defArgs (top 19)) (defBody (top 19)) (defScope (top 19)) [] [] a_shape d_shape
  b_shape : Binds K d_shape ["times"] []
  g_shape : mg "shape" = some (.ref a_shape)
  a_settled : Addr
  d_settled : FuncData
  F_settled : FunD K "settled" "settled" (defArgs (top 20)) (defBody (top 20)) (defScope (top 20)) [] [] a_settled d_settled
  b_settled : Binds K d_settled ["web", "times", "most"] []
  g_settled : mg "settled" = some (.ref a_settled)
  a_come_to : Addr
  d_come_to : FuncData
  F_come_to : FunD K "come_to" "come_to" (defArgs (top 25)) (defBody (top 25)) (defScope (top 25)) [] [] a_come_to d_come_to
  b_come_to : Binds K d_come_to ["many", "pairs"] []
  g_come_to : mg "come_to" = some (.ref a_come_to)
  a_Web_init : Addr
  d_Web_init : FuncData
  F_Web_init : FunD K "__init__" "Web.__init__" (defArgs (inClass (top 26) 0)) (defBody (inClass (top 26) 0)) (defScope (inClass (top 26) 0)) [] [] a_Web_init d_Web_init
  b_Web_init : Binds K d_Web_init ["self", "many", "ways"] []
  a_Web_need_meeting : Addr
  d_Web_need_meeting : FuncData
  F_Web_need_meeting : FunD K "need_meeting" "Web.need_meeting" (defArgs (inClass (top 26) 1)) (defBody (inClass (top 26) 1)) (defScope (inClass (top 26) 1)) [] [] a_Web_need_meeting d_Web_need_meeting
  b_Web_need_meeting : Binds K d_Web_need_meeting ["self", "meeting"] []
  m_Web_need_meeting : Meth K a_Web "need_meeting" a_Web_need_meeting
  a_Web_into : Addr
  d_Web_into : FuncData
  F_Web_into : FunD K "into" "Web.into" (defArgs (inClass (top 26) 2)) (defBody (inClass (top 26) 2)) (defScope (inClass (top 26) 2)) [] [] a_Web_into d_Web_into
  b_Web_into : Binds K d_Web_into ["self", "meeting"] []
  m_Web_into : Meth K a_Web "into" a_Web_into
  a_Web_delay : Addr
  d_Web_delay : FuncData
  F_Web_delay : FunD K "delay" "Web.delay" (defArgs (inClass (top 26) 3)) (defBody (inClass (top 26) 3)) (defScope (inClass (top 26) 3)) [] [] a_Web_delay d_Web_delay
  b_Web_delay : Binds K d_Web_delay ["self", "one", "other"] []
  m_Web_delay : Meth K a_Web "delay" a_Web_delay
  a_Web_ahead : Addr
  d_Web_ahead : FuncData
  F_Web_ahead : FunD K "ahead" "Web.ahead" (defArgs (inClass (top 26) 4)) (defBody (inClass (top 26) 4)) (defScope (inClass (top 26) 4)) [] [] a_Web_ahead d_Web_ahead
  b_Web_ahead : Binds K d_Web_ahead ["self", "times"] []
  m_Web_ahead : Meth K a_Web "ahead" a_Web_ahead
  a_Web_turns : Addr
  d_Web_turns : FuncData
  F_Web_turns : FunD K "turns" "Web.turns" (defArgs (inClass (top 26) 5)) (defBody (inClass (top 26) 5)) (defScope (inClass (top 26) 5)) [] [] a_Web_turns d_Web_turns
  b_Web_turns : Binds K d_Web_turns ["self", "times", "count"] []
  m_Web_turns : Meth K a_Web "turns" a_Web_turns
  a_Web_turned : Addr
  d_Web_turned : FuncData
  F_Web_turned : FunD K "turned" "Web.turned" (defArgs (inClass (top 26) 6)) (defBody (inClass (top 26) 6)) (defScope (inClass (top 26) 6)) [] [] a_Web_turned d_Web_turned
  b_Web_turned : Binds K d_Web_turned ["self"] []
  m_Web_turned : Meth K a_Web "turned" a_Web_turned
  a_law_cell_at : Addr
  d_law_cell_at : FuncData
  F_law_cell_at : FunD K "_law_cell_at" "_law_cell_at" (defArgs (top 28)) (defBody (top 28)) (defScope (top 28)) [] [] a_law_cell_at d_law_cell_at
  b_law_cell_at : Binds K d_law_cell_at ["_law_script", "_law_k"] []
  g_law_cell_at : mg "_law_cell_at" = some (.ref a_law_cell_at)
  a_law_whole : Addr
  d_law_whole : FuncData
  F_law_whole : FunD K "_law_whole" "_law_whole" (defArgs (top 29)) (defBody (top 29)) (defScope (top 29)) [] [] a_law_whole d_law_whole
  b_law_whole : Binds K d_law_whole ["_law_found"] []
  g_law_whole : mg "_law_whole" = some (.ref a_law_whole)
  a_law_mixed : Addr
  d_law_mixed : FuncData
  F_law_mixed : FunD K "_law_mixed" "_law_mixed" (defArgs (top 30)) (defBody (top 30)) (defScope (top 30)) [] [] a_law_mixed d_law_mixed
  b_law_mixed : Binds K d_law_mixed ["_law_cell", "_law_k"] []
  g_law_mixed : mg "_law_mixed" = some (.ref a_law_mixed)
  a_law_delay_by : Addr
  d_law_delay_by : FuncData
  F_law_delay_by : FunD K "_law_delay_by" "_law_delay_by" (defArgs (top 31)) (defBody (top 31)) (defScope (top 31)) [] [] a_law_delay_by d_law_delay_by
  b_law_delay_by : Binds K d_law_delay_by ["_law_number"] []
  g_law_delay_by : mg "_law_delay_by" = some (.ref a_law_delay_by)
  a_law_many : Addr
  d_law_many : FuncData
  F_law_many : FunD K "_law_many" "_law_many" (defArgs (top 32)) (defBody (top 32)) (defScope (top 32)) [] [] a_law_many d_law_many
  b_law_many : Binds K d_law_many ["_law_script"] []
  g_law_many : mg "_law_many" = some (.ref a_law_many)
  a_law_ways : Addr
  d_law_ways : FuncData
  F_law_ways : FunD K "_law_ways" "_law_ways" (defArgs (top 33)) (defBody (top 33)) (defScope (top 33)) [] [] a_law_ways d_law_ways
  b_law_ways : Binds K d_law_ways ["_law_script", "_law_many_here"] []
  g_law_ways : mg "_law_ways" = some (.ref a_law_ways)
  a_law_list : Addr
  d_law_list : FuncData
  F_law_list : FunD K "_law_list" "_law_list" (defArgs (top 34)) (defBody (top 34)) (defScope (top 34)) [] [] a_law_list d_law_list
  b_law_list : Binds K d_law_list ["_law_script", "_law_ways_here", "_law_many_here"] []
  g_law_list : mg "_law_list" = some (.ref a_law_list)
  a_law_common : Addr
  d_law_common : FuncData
  F_law_common : FunD K "_law_common" "_law_common" (defArgs (top 35)) (defBody (top 35)) (defScope (top 35)) [] [] a_law_common d_law_common
  b_law_common : Binds K d_law_common ["_law_one", "_law_other"] []
  g_law_common : mg "_law_common" = some (.ref a_law_common)
  a_law_due : Addr
  d_law_due : FuncData
  F_law_due : FunD K "_law_due" "_law_due" (defArgs (top 36)) (defBody (top 36)) (defScope (top 36)) [] [] a_law_due d_law_due
  b_law_due : Binds K d_law_due ["_law_ways_here", "_law_ring", "_law_many_here"] []
  g_law_due : mg "_law_due" = some (.ref a_law_due)
  a_law_words : Addr
  d_law_words : FuncData
  F_law_words : FunD K "_law_words" "_law_words" (defArgs (top 37)) (defBody (top 37)) (defScope (top 37)) [] [] a_law_words d_law_words
  b_law_words : Binds K d_law_words ["_law_e"] []
  g_law_words : mg "_law_words" = some (.ref a_law_words)
  a_law_told : Addr
  d_law_told : FuncData
  F_law_told : FunD K "_law_told" "_law_told" (defArgs (top 38)) (defBody (top 38)) (defScope (top 38)) [] [] a_law_told d_law_told
  b_law_told : Binds K d_law_told ["_law_web", "_law_ring"] []
  g_law_told : mg "_law_told" = some (.ref a_law_told)
  a_law_stirred : Addr
  d_law_stirred : FuncData
  F_law_stirred : FunD K "_law_stirred" "_law_stirred" (defArgs (top 39)) (defBody (top 39)) (defScope (top 39)) [] [] a_law_stirred d_law_stirred
  b_law_stirred : Binds K d_law_stirred ["_law_web", "_law_times", "_law_cell"] []
  g_law_stirred : mg "_law_stirred" = some (.ref a_law_stirred)
  a_law : Addr
  d_law : FuncData
  F_law : FunD K "law" "law" (defArgs (top 40)) (defBody (top 40)) (defScope (top 40)) [] [] a_law d_law
  b_law : Binds K d_law ["_law_script"] []
  g_law : mg "law" = some (.ref a_law)
  c_lw : Addr
  P_lw : Addr
  code_lw : d_law_ways.code = .ref c_lw
  cl_Web : Cls K a_Web
  M_Web : Mk K a_Web a_Web_init
  na_many : NoAttr K a_Web "many"
  na_ways : NoAttr K a_Web "ways"
  na_inner : NoAttr K a_Web "inner"
  X_NoMeeting : ExcAt K a_NoMeeting a_PaceError
  kit_NoMeeting : KitAt K a_NoMeeting [(a_BadCount, false), (a_NoMeeting, true), (a_BadDelay, false), (a_Apart, false), (a_NoRing, false), (a_BadPace, false)]
  X_NoRing : ExcAt K a_NoRing a_PaceError
  kit_NoRing : KitAt K a_NoRing [(a_BadCount, false), (a_NoMeeting, false), (a_BadDelay, false), (a_Apart, false), (a_NoRing, true), (a_BadPace, false)]

section
variable {P : Program} {w : World} {K : PySem.W.Frag} {mg : Str → Option Value} {base : Heap}
/-! ### the layer: data that are compared, attributes that are set -/
theorem dp_ints {K : PySem.W.Frag} {H : Hp} : ∀ xs : List Int, DpAll K H (xs.map V.int) (xs.map PyData.int)
  | [] => .nil
  | x :: xs => .cons (.int x) (dp_ints xs)
theorem dp_tups {K : PySem.W.Frag} {H : Hp} {α : Type} (f : α → List Int) : ∀ (vs : List V) (xs : List α), Tups H vs (xs.map fun x => (f x).map V.int) → DpAll K H vs (xs.map fun x => .tuple ((f x).map PyData.int))
  | [], [], _ => .nil
  | v :: vs, x :: xs, h => by
    refine .cons ?_ (dp_tups f vs xs ⟨Nat.succ.inj h.1, fun i y hy => h.2 (i + 1) y hy⟩)
    obtain ⟨p, hp, ht⟩ := h.2 0 _ rfl
    obtain rfl : v = .ref p := by simpa using hp
    exact .tup (st_of ht) (dp_ints (f x))
  | [], _ :: _, h => by have := h.1; simp at this
  | _ :: _, [], h => by have := h.1; simp at this
theorem lay_ints : ∀ xs : List Int, PyData.canLayAll0 (xs.map PyData.int) = true
  | [] => rfl
  | x :: xs => by
    rw [List.map_cons, PyData.canLayAll0, lay_ints xs, PyData.canLay0]
    rfl
theorem depth_ints : ∀ xs : List Int, PyData.depthAll (xs.map PyData.int) ≤ 1
  | [] => by rw [List.map_nil, PyData.depthAll]; omega
  | x :: xs => by
    have := depth_ints xs
    rw [List.map_cons, PyData.depthAll, PyData.depth]
    omega
theorem lay_tups {α : Type} (f : α → List Int) : ∀ xs : List α, PyData.canLayAll0 (xs.map fun x => .tuple ((f x).map PyData.int)) = true
  | [] => rfl
  | x :: xs => by
    rw [List.map_cons, PyData.canLayAll0, lay_tups f xs, PyData.canLay0, lay_ints]
    rfl
theorem depth_tups {α : Type} (f : α → List Int) : ∀ xs : List α, PyData.depthAll (xs.map fun x => .tuple ((f x).map PyData.int)) ≤ 3
  | [] => by rw [List.map_nil, PyData.depthAll]; omega
  | x :: xs => by
    have := depth_tups f xs
    have := depth_ints (f x)
    rw [List.map_cons, PyData.depthAll, PyData.depth]
    omega
theorem shaped_ints (xs : List Int) : SeqAt.shaped (.list (xs.map PyData.int)) = true := by
  unfold SeqAt.shaped
  rw [PyData.canLay0, lay_ints, Bool.true_and, decide_eq_true_iff, PyData.depth]
  have := depth_ints xs
  omega
theorem shaped_intsT (xs : List Int) : SeqAt.shaped (.tuple (xs.map PyData.int)) = true := by
  unfold SeqAt.shaped
  rw [PyData.canLay0, lay_ints, Bool.true_and, decide_eq_true_iff, PyData.depth]
  have := depth_ints xs
  omega
theorem shaped_tups {α : Type} (f : α → List Int) (xs : List α) : SeqAt.shaped (.list (xs.map fun x => .tuple ((f x).map PyData.int))) = true := by
  unfold SeqAt.shaped
  rw [PyData.canLay0, lay_tups, Bool.true_and, decide_eq_true_iff, PyData.depth]
  have := depth_tups f xs
  omega
theorem eqv_ints : ∀ xs ys : List Int, PyData.eqvAll (xs.map PyData.int) (ys.map PyData.int) = decide (xs = ys)
  | [], [] => by simp [PyData.eqvAll]
  | [], y :: ys => by simp [PyData.eqvAll]
  | x :: xs, [] => by simp [PyData.eqvAll]
  | x :: xs, y :: ys => by
    rw [List.map_cons, List.map_cons, PyData.eqvAll, eqv_ints xs ys, PyData.eqv]
    by_cases h : x = y
    · subst h
      simp
    · simp [h]
theorem eqv_tups {α : Type} (f : α → List Int) (hf : ∀ a b, f a = f b → a = b) : ∀ xs ys : List α, PyData.eqvAll (xs.map fun x => .tuple ((f x).map PyData.int)) (ys.map fun x => .tuple ((f x).map PyData.int)) = open Classical in decide (xs = ys)
  | [], [] => by simp [PyData.eqvAll]
  | [], y :: ys => by simp [PyData.eqvAll]
  | x :: xs, [] => by simp [PyData.eqvAll]
  | x :: xs, y :: ys => by
    rw [List.map_cons, List.map_cons, PyData.eqvAll, eqv_tups f hf xs ys, PyData.eqv, eqv_ints]
    by_cases h : x = y
    · subst h
      simp
    · have h2 : ¬ f x = f y := fun z => h (hf _ _ z)
      simp [h, h2]
section
variable {K : PySem.W.Frag} {σ : L2.St} {H H' : Hp} {ta tb te : TE} {D : Ends} {tz : TS} {C : Hp → VK → Prop}
/-- two that read as data: == and != -/
theorem rv_eqD {x y : V} {d e : PyData} (hd : ∀ H1, Ex H H1 → Dp K H1 x d) (he : ∀ H1, Ex H H1 → Dp K H1 y e) (sd : SeqAt.shaped d = true) (se : SeqAt.shaped e = true) : RV (rEqD K) x y H (.bl (PyData.eqv d e)) := fun H1 e1 _ q => ⟨d, e, hd H1 e1, he H1 e1, sd, se, q H1 (Ex.refl H1)⟩
theorem rv_neD {x y : V} {d e : PyData} (hd : ∀ H1, Ex H H1 → Dp K H1 x d) (he : ∀ H1, Ex H H1 → Dp K H1 y e) (sd : SeqAt.shaped d = true) (se : SeqAt.shaped e = true) : RV (rNeD K) x y H (.bl (!PyData.eqv d e)) := fun H1 e1 _ q => ⟨d, e, hd H1 e1, he H1 e1, sd, se, q H1 (Ex.refl H1)⟩
/-- xs == [] for ints, for tuples of ints -/
theorem dp_il {p : Addr} {xs : List Int} (h : H p = some (.lst (xs.map V.int))) : ∀ H1, Ex H H1 → Dp K H1 (.ref p) (.list (xs.map PyData.int)) := fun _ e => .lst (sq_of (e _ _ h)) (dp_ints xs)
theorem dp_it {p : Addr} {xs : List Int} (h : H p = some (.tup (xs.map V.int))) : ∀ H1, Ex H H1 → Dp K H1 (.ref p) (.tuple (xs.map PyData.int)) := fun _ e => .tup (st_of (e _ _ h)) (dp_ints xs)
theorem dp_tl {p : Addr} {vs : List V} {α : Type} {f : α → List Int} {xs : List α} (h : H p = some (.lst vs)) (ht : Tups H vs (xs.map fun x => (f x).map V.int)) : ∀ H1, Ex H H1 → Dp K H1 (.ref p) (.list (xs.map fun x => .tuple ((f x).map PyData.int))) :=
  fun _ e => .lst (sq_of (e _ _ h)) (dp_tups f vs xs (ht.ex e))
theorem ev_eqNil {p : Addr} {xs : List Int} (ha : Ev ta σ H (.ref p)) (h : H p = some (.lst (xs.map V.int))) : Ev (tOp (rEqD K) ta (tLst tNil)) σ H (.bl (decide (xs = []))) :=
  ev_opL ha (el_lst ea_nil (by simp)) fun q H1 hq e1 => by
    have r := rv_eqD (K := K) (H := H1) (x := .ref p) (y := .ref q) (dp_il (e1 _ _ h)) (dp_il (xs := []) hq) (shaped_ints _) (shaped_ints _)
    rw [PyData.eqv, eqv_ints] at r
    exact r
theorem ev_neNil {p : Addr} {xs : List Int} (ha : Ev ta σ H (.ref p)) (h : H p = some (.lst (xs.map V.int))) : Ev (tOp (rNeD K) ta (tLst tNil)) σ H (.bl (!decide (xs = []))) :=
  ev_opL ha (el_lst ea_nil (by simp)) fun q H1 hq e1 => by
    have r := rv_neD (K := K) (H := H1) (x := .ref p) (y := .ref q) (dp_il (e1 _ _ h)) (dp_il (xs := []) hq) (shaped_ints _) (shaped_ints _)
    rw [PyData.eqv, eqv_ints] at r
    exact r
theorem ev_tupsNil {p : Addr} {vs : List V} {α : Type} {f : α → List Int} {x : α} {xs : List α} (ha : Ev ta σ H (.ref p)) (h : H p = some (.lst vs)) (ht : Tups H vs ((x :: xs).map fun x => (f x).map V.int)) : Ev (tOp (rEqD K) ta (tLst tNil)) σ H (.bl false) :=
  ev_opL ha (el_lst ea_nil (by simp)) fun q H1 hq e1 => by
    have r := rv_eqD (K := K) (H := H1) (x := .ref p) (y := .ref q) (dp_tl (e1 _ _ h) (ht.ex e1)) (dp_il (xs := []) hq) (shaped_tups _ _) (shaped_ints _)
    rw [PyData.eqv, List.map_cons, List.map_nil, PyData.eqvAll] at r
    exact r
/-! self.f = value -/
def fldK (K : PySem.W.Frag) (D : Ends) (σ : L2.St) (i : Nat) (f : Str) : VK := fun y H1 => tVar i σ H1 fun x H2 => ∃ a C dx fs, x = .ref a ∧ H2 a = some (.ins C dx fs) ∧ Cls K C ∧ NoAttr K C f ∧ fs.length < 1000 ∧ D.nx σ (upd H2 a (.ins C dx (putF f y fs)))
theorem fld_go {p : Addr} {i : Nat} {f : Str} {Cl dx : Addr} {fs : List (Str × V)} {y : V} (hi : σ[i]? = some (some (.ref p))) (hc : Cls K Cl) (hn : NoAttr K Cl f) (hp : H p = some (.ins Cl dx fs)) (hl : fs.length < 1000) (q : D.nx σ (upd H p (.ins Cl dx (putF f y fs)))) : fldK K D σ i f y H :=
  ⟨_, hi, p, Cl, dx, fs, rfl, hp, hc, hn, hl, q⟩
theorem s_fldK {i : Nat} {f : Str} {tv : TE} (h : EvK tv σ H C) (k : C H (fldK K D σ i f)) : sFld K (tVar i) tv f D σ H := h H (Ex.refl H) _ k
theorem q_fldK {i : Nat} {f : Str} {tv : TE} (h : EvK tv σ H C) (k : C H (fldK K { D with nx := tz D } σ i f)) : tSeq (sFld K (tVar i) tv f) tz D σ H := h H (Ex.refl H) _ k
end
/-- all but one object stay -/
def ExB (p : Addr) (H H' : Hp) : Prop := ∀ b o, H b = some o → b ≠ p → H' b = some o
theorem ExB.of {p : Addr} {H H' : Hp} (e : Ex H H') : ExB p H H' := fun b o h _ => e b o h
theorem ExB.trans {p : Addr} {H H1 H2 : Hp} (a : ExB p H H1) (b : ExB p H1 H2) : ExB p H H2 := fun x o h n => b x o (a x o h n) n
theorem ExB.upd {p : Addr} {H : Hp} {o : HO} : ExB p H (upd H p o) := fun b u h n => by rw [upd_ne n]; exact h
theorem Tups.exb {p : Addr} {H H' : Hp} {vs : List V} {xss : List (List V)} {fs : List (Str × V)} {C dx : Addr} (e : ExB p H H') (hp : H p = some (.ins C dx fs)) (h : Tups H vs xss) : Tups H' vs xss := ⟨h.1, fun i x hx => by
  obtain ⟨q, a, b⟩ := h.2 i x hx
  exact ⟨q, a, e _ _ b fun z => by rw [z, hp] at b; cases b⟩⟩
theorem Tups.upd {l : Addr} {o : HO} {xs : List V} {H : Hp} {vs : List V} {xss : List (List V)} (hl : H l = some (.lst xs)) (h : Tups H vs xss) : Tups (L2.upd H l o) vs xss := ⟨h.1, fun i x hx => by
  obtain ⟨q, a, b⟩ := h.2 i x hx
  exact ⟨q, a, by rw [upd_ne fun z => by rw [z, hl] at b; cases b]; exact b⟩⟩
theorem Tups.snoc {H : Hp} {vs : List V} {xss : List (List V)} {q : Addr} {x : List V} (h : Tups H vs xss) (hq : H q = some (.tup x)) : Tups H (vs ++ [.ref q]) (xss ++ [x]) := by
  refine ⟨by rw [List.length_append, List.length_append, h.1]; rfl, fun i y hy => ?_⟩
  by_cases hi : i < xss.length
  · rw [List.getElem?_append_left hi] at hy
    obtain ⟨p, a, b⟩ := h.2 i y hy
    exact ⟨p, by rw [List.getElem?_append_left (by rw [h.1]; exact hi)]; exact a, b⟩
  · have hi2 : i = xss.length := by
      have := (List.getElem?_eq_some_iff.mp hy).1
      rw [List.length_append] at this
      simp only [List.length_cons, List.length_nil] at this
      omega
    subst hi2
    rw [List.getElem?_append_right (Nat.le_refl _), Nat.sub_self] at hy
    obtain rfl : x = y := by simpa using hy
    exact ⟨q, by rw [← h.1, List.getElem?_append_right (Nat.le_refl _), Nat.sub_self]; rfl, hq⟩
theorem sw_cell {elt : Expr} {gs : List Comprehension} {scope : Scope} {pos py : Pos} {y : Str} {l : Nat} {env : Env} (hy : env.scope.names.lookup y = some .cell) : swapsWith (.ListComp elt gs scope pos) (some (.Name y py)) l env = pure false := by
  have ky : env.kindOf y = some .cell := hy
  unfold swapsWith
  simp only [ky]
  have : (some NameKind.cell == some NameKind.local) = false := rfl
  rw [this, Bool.and_false, Bool.false_and, Bool.false_and]
theorem hu_of {k : Nat} {A : Around} (h : Room k A) : A.units + 1 < cLine := by
  have := h.units
  omega
/-! ### {t: v} with one pair, the key a tuple -/
section
variable {X : Cx} {σ : L2.St} {H : Hp}
def tDisp1T (tk tv : TE) : TE := fun σ H Q => ∀ p, H p = none → tk σ (upd H p (.dT [])) fun x H1 => tv σ H1 fun y H2 => H2 p = some (.dT []) ∧ ∃ (b : Addr) (k : List Key), x = .ref b ∧ H2 b = some (.tup (k.map kV)) ∧ Q (.ref p) (upd H2 p (.dT [(k, y)]))
theorem pe_disp1T {pos : Pos} {k v : Expr} {tk tv : TE} (hu : X.A.units + 1 < cLine) (hk : PE X k tk) (hv : PE X v tv) : PE X (.Dict [some k] [v] pos) (tDisp1T tk tv) := by
  refine ⟨fun pins s σ H Q I q => ?_⟩
  have hn := I.hok.fresh (Nat.le_refl s.heap.objs.size)
  have I1 := I.laid (a := s.heap.objs.size) (o := .dT []) (h' := s.heap.push { cls := .type "dict", data := .dict #[] }) (t' := s.toks) (fun _ _ q => Heap.get?_push_of_some _ q) (Nat.le_refl _) (dt_empty s.heap I.big)
  rw [arm_eval_Dict, zip_pairTrees [some k] [v] X.env pos rfl rfl, dictDisplay_pairs _ (by intro z; have := congrArg List.length z; rw [pairTrees_length [some k] [v] X.env pos rfl rfl] at this; cases this) (by rw [pairTrees_length [some k] [v] X.env pos rfl rfl]; show 1 < 17; decide)]
  refine wpAny_bind (wpAny_standAt (wpAny_bind (wpAny_subDictH (knd := tupleKind (mixKind X.prog X.w)) (show X.A.units < cLine from Nat.lt_of_succ_lt hu) (by rw [pairTrees_length [some k] [v] X.env pos rfl rfl]; show 1 ≤ 15; decide) ?_)))
  refine pairTrees_cons_walk (thn (hk.run pins _ σ _ _ I1 (q _ hn)) fun u s1 ⟨x, H1, I2, rx, q1⟩ => thn (hv.run pins s1 σ H1 _ I2 q1) fun w2 s2 ⟨y, H2, I3, ry, e, b, kk, ex, eb, q2⟩ => pairTrees_nil_walk ?_)
  subst ex
  cases (show u = Value.ref b from rx)
  obtain ⟨z, hd, xs, rel, dd⟩ := dt_of I3.hok e
  cases rel
  refine ⟨[(kk, b, w2)], ⟨rfl, rfl, key_of I3.hok eb, trivial⟩, dd, fun h' tk' dd' hs => wpAny_pure ⟨.ref s.heap.objs.size, _, ?_, rfl, q2⟩⟩
  obtain ⟨ob, es, ep, hq, h2, h3, h4, _, h5⟩ := dd'
  refine d_write I3 (by rw [e]; exact True.intro) hs ⟨ob, hq⟩ ⟨by simp [sizeLine_eq], hd, [(kk, b, w2)], .cons ⟨rfl, ?_, ry⟩ .nil, ob, es, ep, hq, h2, h3, h4, h5⟩
  show upd H2 _ _ b = _
  rw [upd_ne fun z => by rw [z, e] at eb; cases eb]
  exact eb
end
/-! ### the def that makes a lambda: its code object is known -/
theorem code_of {K : PySem.W.Frag} {x qual : Str} {params : Arguments} {body : List Stmt} {scope : Scope} {dvs : List V} {kws : List (Str × V)} {fd : FuncData} {p : He.Defn} (F : FunD K x qual params body scope dvs kws (He.fAd K p) fd) : fd.code = .ref (He.codeOf K p) := by
  obtain ⟨oc, od, dV, kV, doc, pm, an, cdv, ct, osl, rfl, lk, hcd, _, _⟩ := F.ex
  obtain ⟨c, rfl⟩ := He.codeIn_ref hcd
  have e : He.codeOf K p = c := He.codeOf_eq lk rfl
  rw [e]
theorem okL {P : Program} {w : World} {K : PySem.W.Frag} {mg : Str → Option Value} {base : Heap} {x qual : Str} {params : Arguments} {body : List Stmt} {scope : Scope} {dvs : List V} {kws : List (Str × V)} {f c0 : Addr} {fd : FuncData}
    {CX : CXT} {N ps : List Str} {k : Nat} {sp : Sp} (F : FunD K x qual params body scope dvs kws f fd) (hc : fd.code = .ref c0) (S : FnScope N ps scope) (len : ∀ vs H Q E, sp vs H Q E → vs.length = ps.length)
    (hbody : ∀ (A : Around) (outer : List Env) (s : Shared) (H : Hp) (vs : List V) (Q : VK) (E : XK), Room k (A.deeper (envOfC qual scope s.heap.objs.size f (.ref c0))) → sp vs H Q E →
      ∃ t, PSs (cxOf CX P w K mg base N qual scope f (.ref c0) A outer s H E).nox body t ∧ t { nx := fun _ H' => Q .non H', rt := Q } (start N vs) H) : FnOk P w K mg base CX (k + 1) f fd ps sp := by
  obtain ⟨oc, od, dV, kV, doc, pm, an, cdv, ct, osl, rfl, lk, hcd, _, _⟩ := F.ex
  have e : cdv = .ref c0 := hc
  subst e
  exact fn_of lk hcd S len fun A outer s H vs Q E hr h => by
    obtain ⟨t, a, b⟩ := hbody A outer s H vs Q E hr h
    exact ⟨t, a.nox, b⟩
/-- the table's name -/
def lamT (P0 : Addr) : List (Addr × Str) := [(P0, ("_law_ways.<locals>." : Str) ++ "<lambda>")]
/-! ### webs.py -/
def sp_come_to : Sp := fun vs H Q _ => ∃ (n : Nat) (a : Addr) (es : List (Nat × Nat)) (us : List V), vs = [.int (n : Int), .ref a] ∧ H a = some (.lst us) ∧ Tups H us (es.map pairV) ∧ n ≤ 12 ∧ es.length ≤ 100 ∧ RetV (.int ((comeTo n es).length : Int)) H Q
theorem ctIn_len (x : Nat) : ∀ (es : List (Nat × Nat)) (met : List Nat), (ctIn x es met).length ≤ met.length + es.length
  | [], met => Nat.le_refl _
  | e :: es, met => by
    rw [ctIn_cons]
    have := ctIn_len x es (if e.1 = x ∧ e.2 ∉ met then met ++ [e.2] else met)
    split at this
    · rename_i h
      rw [if_pos h]
      rw [List.length_append] at this
      simp only [List.length_cons, List.length_nil] at this ⊢
      omega
    · rename_i h
      rw [if_neg h]
      simp only [List.length_cons]
      omega
theorem ct_len (es : List (Nat × Nat)) (i : Nat) : ((List.range i).foldl (ctStep es) [0]).length ≤ 1 + i * es.length := by
  induction i with
  | zero => exact Nat.le_add_right 1 _
  | succ i ih =>
    rw [List.range_succ, List.foldl_append]
    show (ctStep es ((List.range i).foldl (ctStep es) [0]) i).length ≤ _
    generalize (List.range i).foldl (ctStep es) [0] = met at ih
    unfold ctStep
    rw [Nat.succ_mul]
    split
    · have := ctIn_len (met.getD i 0) es met
      omega
    · omega
abbrev s_come_to : Stmt := (top 25)
abbrev N_come_to : List Str := ["many", "pairs", "met", "meeting", "one", "other"]
theorem sc_come_to : FnScope N_come_to ["many", "pairs"] (defScope s_come_to) := ⟨rfl, rfl, rfl, by decide +kernel, rfl, by decide +kernel, by decide +kernel⟩

theorem ok_come_to (T : Txt K mg) : FnOk P w K mg base CX0 1 T.a_come_to T.d_come_to ["many", "pairs"] sp_come_to := by
  refine okN T.F_come_to sc_come_to (fun vs H Q E h => ?_) (fun cdv A outer s H vs Q E HR h => ?_)
  · obtain ⟨n, a, es, us, rfl, _⟩ := h
    rfl
  · obtain ⟨n, a, es, us, rfl, ha, hT, hn, he, q⟩ := h
    refine ⟨_, (pss_cons (ps_set (i := 2) sc_come_to.nd rfl (by first | exact Or.inl rfl | exact Or.inr rfl) (pe_lst (pa_cons pe_int pa_nil)))
  (pss_cons (ps_for PassesOwn.never rfl (pi_range1 (by rfl) T.n_range (pa_cons (pv 0) pa_nil)) (pg_name (i := 3) sc_come_to.nd rfl (by first | exact Or.inl rfl | exact Or.inr rfl))
  (pss_one (ps_if (pt_cmpR op_lt (pv 3) (pe_callB call_len_seq (by rfl) T.n_len boot_len (pa_cons (pv 2) pa_nil)) (nomark _))
  (pss_one (ps_for PassesOwn.never rfl (pi_list (pv 1)) (pg_tup rfl (pgs_cons (pg_name (i := 4) sc_come_to.nd rfl (by first | exact Or.inl rfl | exact Or.inr rfl)) (pgs_cons (pg_name (i := 5) sc_come_to.nd rfl (by first | exact Or.inl rfl | exact Or.inr rfl)) pgs_nil)))
  (pss_one (ps_if (PW.pt (pw_and (pt_cmpR op_eq (pv 4) (pe_ix ix_list (pv 2) (pv 3) (fun _ _ => rfl)) (nomark _)) (pw_and1 (pt_cmpR op_notIn_seq (pv 5) (pv 2) rfl))))
  (pss_one (ps_set (i := 2) sc_come_to.nd rfl (by first | exact Or.inl rfl | exact Or.inr rfl) (pe_op op_cat (pv 2) (pe_lst (pa_cons (pv 5) pa_nil))))) pss_nil)))) pss_nil)))
  (pss_one (ps_ret (pe_callB call_len_seq (by rfl) T.n_len boot_len (pa_cons (pv 2) pa_nil)))))), ?_⟩
    refine q_asgL (el_lst (ea_cons ev_c ea_nil) (by simp)) fun l0 H1 hl0 e1 h1 => ?_
    refine q_forR1 (n := (n : Int)) (ea_cons (ev_var rfl) ea_nil) ⟨by omega, by omega⟩ (fun i σ' H' => ∃ (l : Addr) (r3 r4 r5 : Option V), σ' = [some (.int (n : Int)), some (.ref a), some (.ref l), r3, r4, r5] ∧ H' l = some (.lst (natV ((List.range i).foldl (ctStep es) [0]))) ∧ Ex H H')
      (fun H2 e2 => ⟨l0, none, none, none, rfl, e2 _ _ h1, e1.trans e2⟩) ?_ ?_
    · rintro i σ' H' hi ⟨l, r3, r4, r5, rfl, hl, e⟩
      have hm0 := ct_len es i
      have hmul : i * es.length ≤ 12 * 100 := Nat.mul_le_mul (by omega) he
      generalize hmet : (List.range i).foldl (ctStep es) [0] = met at hl hm0
      have hstep : (List.range (i + 1)).foldl (ctStep es) [0] = ctStep es met i := by
        rw [List.range_succ, List.foldl_append, hmet]
        rfl
      show tIfS _ _ _ _ _ _
      refine s_when (b := decide (i < met.length)) (et_is (et_test (ev_op (ev_var rfl) (ev_len (ev_var rfl) (sq_of hl)) rv_I0)) (by rw [natV_len]; exact decide_eq_decide.mpr (by omega))) (fun hb H2 e2 => ?_) (fun hb H2 e2 => ?_)
      · have hb := of_decide_eq_true hb
        obtain ⟨x, hx⟩ : ∃ x, met[i]? = some x := ⟨met[i], List.getElem?_eq_getElem hb⟩
        have ext : ∀ j, ∃ r, ctIn x (es.take j) met = met ++ r := fun j => by
          have key : ∀ (fs : List (Nat × Nat)) (m : List Nat), ∃ r, ctIn x fs m = m ++ r := by
            intro fs
            induction fs with
            | nil => exact fun m => ⟨[], by rw [List.append_nil]; rfl⟩
            | cons f fs ih =>
              intro m
              rw [ctIn_cons]
              split
              · obtain ⟨r, hr⟩ := ih (m ++ [f.2])
                exact ⟨f.2 :: r, by rw [hr, List.append_assoc]; rfl⟩
              · exact ih m
          exact key _ _
        refine s_forL (a := a) (xs := us) (ev_var rfl) (sq_of (e2 _ _ (e _ _ ha))) (fun j σ' H' => ∃ (l : Addr) (r4 r5 : Option V), σ' = [some (.int (n : Int)), some (.ref a), some (.ref l), some (.int (i : Int)), r4, r5] ∧ H' l = some (.lst (natV (ctIn x (es.take j) met))) ∧ Ex H H')
          (fun H3 e3 => ⟨l, r4, r5, rfl, e3 _ _ (e2 _ _ hl), (e.trans e2).trans e3⟩) (fun j σ' H' _ ⟨_, _, _, _, _, e⟩ => sq_of (e _ _ ha)) ?_ ?_
        · rintro j u σ' H' hj ⟨l, r4, r5, rfl, hl, e⟩
          obtain ⟨p, xv, rfl, hxv, hp⟩ := (hT.ex e).at hj
          rw [List.getElem?_map] at hxv
          obtain ⟨ed, hed, rfl⟩ := Option.map_eq_some_iff.mp hxv
          have hstep2 : ctIn x (es.take (j + 1)) met = (if ed.1 = x ∧ ed.2 ∉ ctIn x (es.take j) met then ctIn x (es.take j) met ++ [ed.2] else ctIn x (es.take j) met) := by
            rw [List.take_add_one, hed]
            unfold ctIn
            rw [List.foldl_append]
            rfl
          have hlen2 := ctIn_len x (es.take j) met
          have htk : (es.take j).length ≤ es.length := by rw [List.length_take]; omega
          obtain ⟨rr, hrr⟩ := ext j
          have hxi : (ctIn x (es.take j) met)[i]? = some x := by
            rw [hrr, List.getElem?_append_left hb]
            exact hx
          generalize ctIn x (es.take j) met = cm at hl hstep2 hlen2 hxi
          refine g_tup2 (K := K) hp ?_
          refine s_when (b := decide (ed.1 = x) && !decide (ed.2 ∈ cm)) (et_and (a := decide (ed.1 = x)) (et_is (et_test (ev_op (ev_var rfl) (ev_op (ev_var rfl) (ev_var rfl) (rv_ixL (sq_of hl) (at_nat (natV_at hxi)))) (rv_eq rfl))) (decide_eq_decide.mpr ⟨fun z => by cases z; rfl, fun z => by rw [z]⟩)) fun _ =>
            et_is (et_test (ev_op (ev_var rfl) (ev_var rfl) (rv_niL (sq_of hl) rfl (flat_natV _)))) (by rw [inV_nat])) (fun hc H3 e3 => ?_) (fun hc H3 e3 => ?_)
          · have hc2 : ed.1 = x ∧ ed.2 ∉ cm := by simpa using hc
            refine s_asgL (el_cat (ew_of (ev_var rfl) (e3 _ _ hl)) (ew_new (el_lst (ea_cons (ev_var rfl) ea_nil) (by simp))) (by rw [natV_len]; simp only [List.length_cons, List.length_nil]; omega)) fun p2 H4 _ e4 h4 => ?_
            refine ⟨p2, _, _, rfl, ?_, (e.trans e3).trans e4⟩
            rw [h4, hstep2, if_pos hc2, natV_app]
            rfl
          · have hc2 : ¬ (ed.1 = x ∧ ed.2 ∉ cm) := by simpa using hc
            exact ⟨l, _, _, rfl, by rw [hstep2, if_neg hc2]; exact e3 _ _ hl, e.trans e3⟩
        · rintro σ' H' ⟨l, r4, r5, rfl, hl, e⟩
          refine ⟨l, _, _, _, rfl, ?_, e⟩
          rw [hl, hstep]
          unfold ctStep
          rw [if_pos hb, getD_of hx, List.take_of_length_le (by rw [← hT.1.trans (List.length_map _)]; exact Nat.le_refl _)]
      · have hb := of_decide_eq_false hb
        refine ⟨l, _, _, _, rfl, ?_, e.trans e2⟩
        rw [hstep]
        unfold ctStep
        rw [if_neg hb]
        exact e2 _ _ hl
    · rintro σ' H' ⟨l, r3, r4, r5, rfl, hl, e⟩
      refine s_ret (ev_is (ev_len (ev_var rfl) (sq_of hl)) (by rw [natV_len]; rfl)) fun H2 e2 => q H2 (e.trans e2)
/-! the methods that ask a web -/
def sp_Web_need_meeting (C : Addr) : Sp := fun vs H Q _ => ∃ (p dx : Addr) (fs : List (Str × V)) (n m : Nat), vs = [.ref p, .int (m : Int)] ∧ H p = some (.ins C dx fs) ∧ fs.lookup ("many" : Str) = some (.int (n : Int)) ∧ m < n ∧ RetV .non H Q
abbrev s_Web_need_meeting : Stmt := (inClass (top 26) 1)
abbrev N_Web_need_meeting : List Str := ["self", "meeting"]
theorem sc_Web_need_meeting : FnScope N_Web_need_meeting ["self", "meeting"] (defScope s_Web_need_meeting) := ⟨rfl, rfl, rfl, by decide +kernel, rfl, by decide +kernel, by decide +kernel⟩

theorem ok_Web_need_meeting (T : Txt K mg) : FnOk P w K mg base CX0 1 T.a_Web_need_meeting T.d_Web_need_meeting ["self", "meeting"] (sp_Web_need_meeting T.a_Web) := by
  refine okN T.F_Web_need_meeting sc_Web_need_meeting (fun vs H Q E h => ?_) (fun cdv A outer s H vs Q E HR h => ?_)
  · obtain ⟨p, dx, fs, n, m, rfl, _⟩ := h
    rfl
  · obtain ⟨p, dx, fs, n, m, rfl, hp, hf, hm, q⟩ := h
    refine ⟨_, (pss_one (ps_if (PW.pt (pw_or (pt_cmpR op_lt (pv 1) pe_int (nomark _)) (pw_or1 (pt_cmpR op_ge (pv 1) (pe_fld (pv 0) rfl) (nomark _)))))
  (pss_one ps_never) pss_nil)), ?_⟩
    refine s_when (b := false) (et_or (a := false) (et_is (et_test (ev_op (ev_var rfl) ev_c rv_I0)) (decide_eq_false (by omega))) fun _ => et_is (et_test (ev_op (ev_var rfl) (ev_fld (ev_var rfl) hp T.cl_Web T.na_many hf) rv_I0)) (decide_eq_false (by omega))) (fun z => by cases z) fun _ H1 e1 => q H1 e1
theorem mn_ : ¬ (("need_meeting" : Str) = "many") ∧ ¬ (("need_meeting" : Str) = "ways") ∧ ¬ (("need_meeting" : Str) = "inner") := by decide +kernel
theorem nm_look (n : Nat) (lw li : Addr) : (webF n lw li).lookup ("need_meeting" : Str) = none := webF_no n lw li mn_.1 mn_.2.1 mn_.2.2
theorem nm_look2 (n : Nat) (lw : Addr) : (wf2 n lw).lookup ("need_meeting" : Str) = none := wf2_no n lw mn_.1 mn_.2.1
/-- self.need_meeting(e) of a meeting: nothing -/
theorem ev_need {C : Addr} {σ : L2.St} {H : Hp} {E : XK} {ta : TE} {t : TA} {p dx : Addr} {fs : List (Str × V)} {n m : Nat} (ha : Ev ta σ H (.ref p)) (ho : H p = some (.ins C dx fs)) (hn : fs.lookup ("need_meeting" : Str) = none) (hf : fs.lookup ("many" : Str) = some (.int (n : Int)))
    (hv : EvA t σ H [.int (m : Int)]) (hm : m < n) : Ev (tMeth C "need_meeting" (sp_Web_need_meeting C) [] E ta t) σ H .non :=
  ek_meth mo_v ha ho hn hv fun H1 e1 Q E q => ⟨p, dx, fs, n, m, rfl, e1 _ _ ho, hf, hm, q⟩
def sp_Web_into (C : Addr) : Sp := fun vs H Q _ => ∃ (p dx lw li : Addr) (vi : List V) (lm : Addr) (vm : List V) (n m : Nat), vs = [.ref p, .int (m : Int)] ∧ H p = some (.ins C dx (webF n lw li)) ∧ m < n ∧ H li = some (.lst vi) ∧ vi[m]? = some (.ref lm) ∧ H lm = some (.lst vm) ∧ RetL vm H Q
abbrev s_Web_into : Stmt := (inClass (top 26) 2)
abbrev N_Web_into : List Str := ["self", "meeting"]
theorem sc_Web_into : FnScope N_Web_into ["self", "meeting"] (defScope s_Web_into) := ⟨rfl, rfl, rfl, by decide +kernel, rfl, by decide +kernel, by decide +kernel⟩

theorem ok_Web_into (T : Txt K mg) : FnOk P w K mg base CX0 2 T.a_Web_into T.d_Web_into ["self", "meeting"] (sp_Web_into T.a_Web) := by
  refine okN T.F_Web_into sc_Web_into (fun vs H Q E h => ?_) (fun cdv A outer s H vs Q E HR h => ?_)
  · obtain ⟨p, dx, lw, li, vi, lm, vm, n, m, rfl, _⟩ := h
    rfl
  · obtain ⟨p, dx, lw, li, vi, lm, vm, n, m, rfl, hp, hm, hi, hvi, hlm, q⟩ := h
    refine ⟨_, (pss_cons (ps_expr (pe_meth (pv 0) T.cl_Web T.m_Web_need_meeting (ok_Web_need_meeting T) (HR.mono (by decide)) T.b_Web_need_meeting .nil pass0 (pa_cons (pv 1) pa_nil)))
  (pss_one (ps_ret (pe_callTy call_list_of (by rfl) T.n_list (by decide +kernel) (pa_cons (pe_ix ix_list (pe_fld (pv 0) rfl) (pv 1) (fun _ _ => rfl)) pa_nil))))), ?_⟩
    refine q_drop (ev_need (ev_var rfl) hp (nm_look n lw li) (webF_many n lw li) (ea_cons (ev_var rfl) ea_nil) hm) fun H1 e1 => ?_
    refine s_retL (el_list (ev_op (ev_fld (ev_var rfl) (e1 _ _ hp) T.cl_Web T.na_inner (webF_inner n lw li)) (ev_var rfl) (rv_ixL (sq_of (e1 _ _ hi)) (at_nat hvi))) (sq_of (e1 _ _ hlm))) fun l H2 hl e2 h2 => q.go e1 hl e2 h2
theorem into_no (n : Nat) (lw li : Addr) : (webF n lw li).lookup ("into" : Str) = none := by
  have h : ¬ (("into" : Str) = "many") ∧ ¬ (("into" : Str) = "ways") ∧ ¬ (("into" : Str) = "inner") := by decide +kernel
  exact webF_no n lw li h.1 h.2.1 h.2.2
/-- web.into(e): the pairs that lead there, in a new list -/
theorem el_into {C : Addr} {H : Hp} {p : Addr} {n : Nat} {ws : List Way} (hw : WebAt C H p n ws) {m : Nat} (hm : m < n) : ∃ vm : List V, Tups H vm ((inn ws m).map pairV) ∧
    ∀ (H1 : Hp) (σ : L2.St) (E : XK) (ta : TE) (t : TA), Ex H H1 → Ev ta σ H1 (.ref p) → EvA t σ H1 [.int (m : Int)] → EvL (tMeth C "into" (sp_Web_into C) [] E ta t) σ H1 vm := by
  obtain ⟨dx, lw, li, vw, vi, h1, h2, h3, h4, h5, h6⟩ := hw
  obtain ⟨lm, vm, k1, k2, k3⟩ := h6 m hm
  refine ⟨vm, k3, fun H1 σ E ta t e ha ht => ?_⟩
  exact ek_meth mo_l ha (e _ _ h1) (into_no n lw li) ht fun H2 e2 Q E q => ⟨p, dx, lw, li, vi, lm, vm, n, m, rfl, e2 _ _ (e _ _ h1), hm, e2 _ _ (e _ _ h4), k1, e2 _ _ (e _ _ k2), q⟩
/-- the delays of the ways straight from a to b -/
def dels (ws : List Way) (a b : Nat) : List Int := ((inn ws b).filter fun p => decide (p.1 = a)).map fun p => (p.2 : Int)
def dly (ws : List Way) (a b : Nat) : V := if dels ws a b = [] then .non else .int (mxI (dels ws a b))
def sp_Web_delay (C : Addr) : Sp := fun vs H Q _ => ∃ (p : Addr) (n : Nat) (ws : List Way) (a b : Nat), vs = [.ref p, .int (a : Int), .int (b : Int)] ∧ WebAt C H p n ws ∧ ws.length ≤ 60 ∧ a < n ∧ b < n ∧ RetV (dly ws a b) H Q
theorem filter_getD {α : Type} (l : List α) (d : α) (f : α → Bool) : ((List.range l.length).filter fun i => f (l.getD i d)).map (fun i => l.getD i d) = l.filter f := by
  have := congrArg (List.filter f) (map_getD l d id)
  rw [List.map_id, List.filter_map] at this
  exact this
abbrev s_Web_delay : Stmt := (inClass (top 26) 3)
abbrev N_Web_delay : List Str := ["self", "one", "other", "start", "delay"]
theorem sc_Web_delay : FnScope N_Web_delay ["self", "one", "other"] (defScope s_Web_delay) := ⟨rfl, rfl, rfl, by decide +kernel, rfl, by decide +kernel, by decide +kernel⟩

theorem ok_Web_delay (T : Txt K mg) : FnOk P w K mg base CX0 2 T.a_Web_delay T.d_Web_delay ["self", "one", "other"] (sp_Web_delay T.a_Web) := by
  refine okN T.F_Web_delay sc_Web_delay (fun vs H Q E h => ?_) (fun cdv A outer s H vs Q E HR h => ?_)
  · obtain ⟨p, n, ws, a, b, rfl, _⟩ := h
    rfl
  · obtain ⟨p, n, ws, a, b, rfl, hw, hl, ha, hb, q⟩ := h
    obtain ⟨dx, lw, li, vw, vi, h1, h2, h3, h4, h5, h6⟩ := hw
    obtain ⟨lm, vm, k1, k2, k3⟩ := h6 b hb
    refine ⟨_, (pss_cons (ps_expr (pe_meth (pv 0) T.cl_Web T.m_Web_need_meeting (ok_Web_need_meeting T) (HR.mono (by decide)) T.b_Web_need_meeting .nil pass0 (pa_cons (pv 1) pa_nil)))
  (pss_cons (ps_expr (pe_meth (pv 0) T.cl_Web T.m_Web_need_meeting (ok_Web_need_meeting T) (HR.mono (by decide)) T.b_Web_need_meeting .nil pass0 (pa_cons (pv 2) pa_nil)))
  (pss_one (ps_ret (pe_maxD rfl (by rfl) T.n_max (pe_lc (g := (gTup K 2 (gCons (gName 3) (gCons (gName 4) gNil)))) (tt := (tTest (tOp rEq (tVar 3) (tVar 1)))) (te := (tVar 4)) (own := [("start", 3), ("delay", 4)]) rfl sc_Web_delay.nd (pi_list (pe_ix ix_list (pe_fld (pv 0) rfl) (pv 2) (fun _ _ => rfl))) (blkOk_by (own := [("start", 3), ("delay", 4)]) (N := N_Web_delay) (sc := defScope s_Web_delay) (by decide +kernel)) (fun _ _ _ _ _ => (pg_tup rfl (pgs_cons (pg_name (i := 3) sc_Web_delay.nd rfl (by first | exact Or.inl rfl | exact Or.inr rfl)) (pgs_cons (pg_name (i := 4) sc_Web_delay.nd rfl (by first | exact Or.inl rfl | exact Or.inr rfl)) pgs_nil)))) (fun _ _ _ _ _ => (pts_one (pt_cmpR op_eq (pv 3) (pv 1) (nomark _)))) (fun _ _ _ _ _ => (pv 4)))))))), ?_⟩
    refine q_drop (ev_need (ev_var rfl) h1 (nm_look n lw li) (webF_many n lw li) (ea_cons (ev_var rfl) ea_nil) ha) fun H1 e1 => ?_
    refine q_drop (ev_need (ev_var rfl) (e1 _ _ h1) (nm_look n lw li) (webF_many n lw li) (ea_cons (ev_var rfl) ea_nil) hb) fun H2 e2 => ?_
    have e02 := e1.trans e2
    have hlen : vm.length = (inn ws b).length := k3.1.trans (List.length_map _)
    have hlc : EvL (tLc (iList K (tOp (rIxL K) (tFld K (tVar 0) "inner") (tVar 2))) (gTup K 2 (gCons (gName 3) (gCons (gName 4) gNil))) (tTest (tOp rEq (tVar 3) (tVar 1))) (tVar 4) [3, 4]) [some (.ref p), some (.int (a : Int)), some (.int (b : Int)), none, none] H2 ((dels ws a b).map V.int) := by
      have r := el_lcS (K := K) (σ := [some (.ref p), some (.int (a : Int)), some (.int (b : Int)), none, none]) (H := H2) (xs := vm) (tl := tOp (rIxL K) (tFld K (tVar 0) "inner") (tVar 2)) (g := gTup K 2 (gCons (gName 3) (gCons (gName 4) gNil))) (t := tTest (tOp rEq (tVar 3) (tVar 1))) (te := tVar 4) (vs := [3, 4])
        (fun i => [some (.ref p), some (.int (a : Int)), some (.int (b : Int)), some (.int (((inn ws b).getD i (0, 0)).1 : Int)), some (.int (((inn ws b).getD i (0, 0)).2 : Int))]) (fun i => decide (((inn ws b).getD i (0, 0)).1 = a)) (fun i => .int (((inn ws b).getD i (0, 0)).2 : Int))
        (es_of (ev_op (ev_fld (ev_var rfl) (e02 _ _ h1) T.cl_Web T.na_inner (webF_inner n lw li)) (ev_var rfl) (rv_ixL (sq_of (e02 _ _ h4)) (at_nat k1))) (sq_of (e02 _ _ k2))) (by have := inn_len ws b; omega)
        (fun i x H3 e3 hx Q qq => by
          obtain ⟨p2, xv, rfl, hxv, hp2⟩ := ((k3.ex e02).ex e3).at hx
          rw [List.getElem?_map] at hxv
          obtain ⟨pr, hpr, rfl⟩ := Option.map_eq_some_iff.mp hxv
          rw [getD_of hpr] at qq
          exact g_tup2 hp2 qq)
        (fun i x hx => rfl)
        (fun i x H3 e3 hx => et_is (et_test (ev_op (ev_var rfl) (ev_var rfl) (rv_eq rfl))) (decide_eq_decide.mpr ⟨fun z => by have := V.int.inj z; omega, fun z => by rw [z]⟩))
        (fun i x H3 e3 hx _ => ev_var rfl)
      have e : given vm.length (fun i => decide (((inn ws b).getD i (0, 0)).1 = a)) (fun i => V.int (((inn ws b).getD i (0, 0)).2 : Int)) = (dels ws a b).map V.int := by
        unfold given dels
        rw [hlen, ← filter_getD (inn ws b) (0, 0) (fun p => decide (p.1 = a)), List.map_map, List.map_map]
        rfl
      rw [e] at r
      exact r
    exact s_ret (ev_maxD (es_new hlc)) fun H3 e3 => q H3 (e02.trans e3)
theorem delay_no (n : Nat) (lw li : Addr) : (webF n lw li).lookup ("delay" : Str) = none := by
  have h : ¬ (("delay" : Str) = "many") ∧ ¬ (("delay" : Str) = "ways") ∧ ¬ (("delay" : Str) = "inner") := by decide +kernel
  exact webF_no n lw li h.1 h.2.1 h.2.2
theorem ev_delay {C : Addr} {H : Hp} {p : Addr} {n : Nat} {ws : List Way} (hw : WebAt C H p n ws) (hl : ws.length ≤ 60) {σ : L2.St} {E : XK} {ta : TE} {t : TA} {a b : Nat} (h : Ev ta σ H (.ref p)) (ht : EvA t σ H [.int (a : Int), .int (b : Int)]) (ha : a < n) (hb : b < n) :
    Ev (tMeth C "delay" (sp_Web_delay C) [] E ta t) σ H (dly ws a b) := by
  have hw2 := hw
  obtain ⟨dx, lw, li, vw, vi, h1, h2, h3, h4, h5, h6⟩ := hw
  exact ek_meth mo_v h h1 (delay_no n lw li) ht fun H1 e1 Q E q => ⟨p, n, ws, a, b, rfl, hw2.ex e1, hl, ha, hb, q⟩
/-! Web(many, ways), of a web as the document has it -/
def sp_Web_init (C : Addr) : Sp := fun vs H Q _ => ∃ (p dx lw0 : Addr) (n : Nat) (ws : List Way) (vw : List V), vs = [.ref p, .int (n : Int), .ref lw0] ∧ H p = some (.ins C dx []) ∧ H lw0 = some (.lst vw) ∧ Tups H vw (ws.map wayV) ∧ WebOk n ws ∧
  ∀ H', WebAt C H' p n ws → (∀ b o, H b = some o → b ≠ p → H' b = some o) → (∀ xs, WebAt C (upd H' lw0 (.lst xs)) p n ws) → Q .non H'
theorem wayV_at {H : Hp} {vw : List V} {ws : List Way} {i : Nat} {v : V} (h : Tups H vw (ws.map wayV)) (hv : vw[i]? = some v) : ∃ (q : Addr) (w : Way), v = .ref q ∧ ws[i]? = some w ∧ w ∈ ws ∧ H q = some (.tup (wayV w)) := by
  obtain ⟨q, x, rfl, hx, hq⟩ := h.at hv
  rw [List.getElem?_map] at hx
  obtain ⟨w, hw, rfl⟩ := Option.map_eq_some_iff.mp hx
  exact ⟨q, w, rfl, hw, List.mem_of_getElem? hw, hq⟩
theorem inn_take {ws : List Way} {i m : Nat} {w : Way} (h : ws[i]? = some w) : inn (ws.take (i + 1)) m = if w.2.1 = m then inn (ws.take i) m ++ [(w.1, w.2.2)] else inn (ws.take i) m := by
  unfold inn
  rw [List.take_add_one, h, List.filter_append, List.map_append]
  by_cases e : w.2.1 = m
  · rw [if_pos e]
    simp [e]
  · rw [if_neg e]
    simp [e]
/-- the pairs of a list of ways, one after the other -/
theorem el_wayPairs {K : PySem.W.Frag} {H : Hp} {p : Addr} {vw : List V} {ws : List Way} {σ : L2.St} {tl : TE} {i j : Int} {vs : List Nat} (f : Way → Nat × Nat) (ha : Ev tl σ H (.ref p)) (hp : H p = some (.lst vw)) (hT : Tups H vw (ws.map wayV)) (hl : ws.length ≤ 60) (hv : vs = [3])
    (hw : ∀ x, wipe ((wipe σ vs).set 3 (some x)) vs = wipe σ vs) (hk : ∀ x, ((wipe σ vs).set 3 (some x))[3]? = some (some x)) (h1 : ∀ w, atI (wayV w) i = some (.int ((f w).1 : Int))) (h2 : ∀ w, atI (wayV w) j = some (.int ((f w).2 : Int))) :
    EvK (tLc (iList K tl) (gName 3) tYes (tTup (tCons (tOp (rIxT K) (tVar 3) (tC (V.int i))) (tCons (tOp (rIxT K) (tVar 3) (tC (V.int j))) tNil))) vs) σ H (fun H1 Q => ∀ D H2 us, H1 D = none → Ex H1 H2 → H2 D = some (.lst us) → Tups H2 us ((ws.map f).map pairV) → Q (.ref D) H2) := by
  have hlen : vw.length = ws.length := hT.1.trans (List.length_map _)
  intro H1 e1 Q q
  refine ek_lcS (K := K) (fun n => (wipe σ vs).set 3 (some (vw.getD n .non))) (fun n => .tup (pairV (f (ws.getD n (0, 0, 0))))) (es_of ha (sq_of hp)) (by omega) (fun n x H2 e2 hx Q qq => by rw [getD_of hx] at qq; exact qq) (fun n x hx => hw _) (fun n x H2 e2 hx => et_true) (fun n x H2 e2 hx => ?_) H1 e1 Q ?_
  · obtain ⟨q, w, rfl, hw2, _, hq⟩ := wayV_at (hT.ex e2) hx
    rw [getD_of hx, getD_of hw2]
    have r := eu_tup (ea_cons (ev_op (ev_var (hk (.ref q))) ev_c (rv_ixT (K := K) (H := H2) (st_of hq) (h1 w))) (ea_cons (ev_op (ev_var (hk (.ref q))) ev_c (rv_ixT (K := K) (H := H2) (st_of hq) (h2 w))) ea_nil)) (by simp)
    exact fun H3 e3 Q q => r H3 e3 Q fun p H4 hp4 e4 h4 => q p H4 hp4 e4 h4
  · intro D H2 ps hD e2 h2 hn
    refine q D H2 _ hD e2 h2 ?_
    have t := tups_new hn
    rw [hlen] at t
    have e : (List.range ws.length).map (fun n => pairV (f (ws.getD n (0, 0, 0)))) = (ws.map f).map pairV := by
      rw [map_getD ws (0, 0, 0) (fun w => pairV (f w)), List.map_map]
      rfl
    rw [e] at t
    exact t
/-- how the inner lists stand behind i ways -/
def InnAt (H : Hp) (ps : List Addr) (n : Nat) (ws : List Way) : Prop := ∀ m, m < n → ∃ lm vm, ps[m]? = some lm ∧ H lm = some (.lst vm) ∧ Tups H vm ((inn ws m).map pairV)
theorem InnAt.snoc {H : Hp} {ps : List Addr} {n i : Nat} {ws : List Way} {w : Way} {lm q : Addr} {vm : List V} (h : InnAt H ps n (ws.take i)) (hw : ws[i]? = some w) (nd : ps.Nodup) (hm : ps[w.2.1]? = some lm) (hl : H lm = some (.lst vm)) (hv : Tups H vm ((inn (ws.take i) w.2.1).map pairV))
    (hq : H q = some (.tup [.int (w.1 : Int), .int (w.2.2 : Int)])) : InnAt (upd H lm (.lst (vm ++ [.ref q]))) ps n (ws.take (i + 1)) := by
  intro m hmn
  rw [inn_take hw]
  by_cases e : w.2.1 = m
  · rw [if_pos e, ← e]
    refine ⟨lm, _, hm, upd_same, ?_⟩
    rw [List.map_append]
    exact (hv.upd hl).snoc (by rw [upd_ne fun z => by rw [z, hl] at hq; cases hq]; exact hq)
  · rw [if_neg e]
    obtain ⟨lm', vm', k1, k2, k3⟩ := h m hmn
    have hne : lm' ≠ lm := fun z => e ((List.getElem?_inj (List.getElem?_eq_some_iff.mp hm).1 nd).mp (by rw [hm, k1, z]))
    exact ⟨lm', vm', k1, by rw [upd_ne hne]; exact k2, k3.upd hl⟩
abbrev s_Web_init : Stmt := (inClass (top 26) 0)
abbrev N_Web_init : List Str := ["self", "many", "ways", "way", "pairs", "back", "meeting"]
theorem sc_Web_init : FnScope N_Web_init ["self", "many", "ways"] (defScope s_Web_init) := ⟨rfl, rfl, rfl, by decide +kernel, rfl, by decide +kernel, by decide +kernel⟩

theorem ok_Web_init (T : Txt K mg) : FnOk P w K mg base CX0 2 T.a_Web_init T.d_Web_init ["self", "many", "ways"] (sp_Web_init T.a_Web) := by
  refine okN T.F_Web_init sc_Web_init (fun vs H Q E h => ?_) (fun cdv A outer s H vs Q E HR h => ?_)
  · obtain ⟨p, dx, lw0, n, ws, vw, rfl, _⟩ := h
    rfl
  · obtain ⟨p, dx, lw0, n, ws, vw, rfl, hp, hl, hT, hw, q⟩ := h
    have hvl : vw.length = ws.length := hT.1.trans (List.length_map _)
    have hwl := hw.len
    have hn1 := hw.n1
    have hn12 := hw.n12
    refine ⟨_, (pss_cons (ps_if (PW.pt (pw_or (pt_cmpR op_lt (pv 1) pe_int (nomark _)) (pw_or (pt_cmpR op_gt (pv 1) (pe_glob (v := .int 12) (by rfl) T.g_MOST_MEETINGS.choose_spec ⟨_, rfl⟩) (nomark _)) (pw_or1 (pt_cmpR op_gt (pe_callB call_len_seq (by rfl) T.n_len boot_len (pa_cons (pv 2) pa_nil)) (pe_glob (v := .int 60) (by rfl) T.g_MOST_WAYS.choose_spec ⟨_, rfl⟩) (nomark _))))))
  (pss_one ps_never) pss_nil)
  (pss_cons (ps_fld (pv 0) (pv 1) rfl)
  (pss_cons (ps_fld (pv 0) (pe_callTy call_list_of (by rfl) T.n_list (by decide +kernel) (pa_cons (pv 2) pa_nil)) rfl)
  (pss_cons (ps_for PassesOwn.never rfl (pi_list (pe_fld (pv 0) rfl)) (pg_name (i := 3) sc_Web_init.nd rfl (by first | exact Or.inl rfl | exact Or.inr rfl))
  (pss_cons (ps_expr (pe_meth (pv 0) T.cl_Web T.m_Web_need_meeting (ok_Web_need_meeting T) (HR.mono (by decide)) T.b_Web_need_meeting .nil pass0 (pa_cons (pe_ix ix_tup (pv 3) pe_int (fun _ _ => rfl)) pa_nil)))
  (pss_one (ps_expr (pe_meth (pv 0) T.cl_Web T.m_Web_need_meeting (ok_Web_need_meeting T) (HR.mono (by decide)) T.b_Web_need_meeting .nil pass0 (pa_cons (pe_ix ix_tup (pv 3) pe_int (fun _ _ => rfl)) pa_nil))))))
  (pss_cons (ps_for PassesOwn.never rfl (pi_list (pe_fld (pv 0) rfl)) (pg_name (i := 3) sc_Web_init.nd rfl (by first | exact Or.inl rfl | exact Or.inr rfl))
  (pss_one (ps_if (PW.pt (pw_or (pt_cmpR op_lt (pe_ix ix_tup (pv 3) pe_int (fun _ _ => rfl)) pe_int (nomark _)) (pw_or1 (pt_cmpR op_gt (pe_ix ix_tup (pv 3) pe_int (fun _ _ => rfl)) (pe_glob (v := .int 9999) (by rfl) T.g_GREATEST.choose_spec ⟨_, rfl⟩) (nomark _)))))
  (pss_one ps_never) pss_nil)))
  (pss_cons (ps_setLc (i := 4) (g := (gName 3)) (tt := tYes) (te := (tTup (tCons (tOp (rIxT K) (tVar 3) (tC (.int 0))) (tCons (tOp (rIxT K) (tVar 3) (tC (.int 1))) tNil)))) (own := [("way", 3)]) rfl sc_Web_init.nd rfl rfl (sw_true rfl rfl rfl (by decide +kernel)) (pi_list (pe_fld (pv 0) rfl)) (blkOk_by (own := [("way", 3)]) (N := N_Web_init) (sc := defScope s_Web_init) (by decide +kernel)) (fun _ _ _ _ _ => (pg_name (i := 3) sc_Web_init.nd rfl (by first | exact Or.inl rfl | exact Or.inr rfl))) (fun _ _ _ _ _ => pts_nil) (fun _ _ _ _ _ => (pe_tup (pa_cons (pe_ix ix_tup (pv 3) pe_int (fun _ _ => rfl)) (pa_cons (pe_ix ix_tup (pv 3) pe_int (fun _ _ => rfl)) pa_nil)))))
  (pss_cons (ps_setLc (i := 5) (g := (gName 3)) (tt := tYes) (te := (tTup (tCons (tOp (rIxT K) (tVar 3) (tC (.int 1))) (tCons (tOp (rIxT K) (tVar 3) (tC (.int 0))) tNil)))) (own := [("way", 3)]) rfl sc_Web_init.nd rfl rfl (sw_true rfl rfl rfl (by decide +kernel)) (pi_list (pe_fld (pv 0) rfl)) (blkOk_by (own := [("way", 3)]) (N := N_Web_init) (sc := defScope s_Web_init) (by decide +kernel)) (fun _ _ _ _ _ => (pg_name (i := 3) sc_Web_init.nd rfl (by first | exact Or.inl rfl | exact Or.inr rfl))) (fun _ _ _ _ _ => pts_nil) (fun _ _ _ _ _ => (pe_tup (pa_cons (pe_ix ix_tup (pv 3) pe_int (fun _ _ => rfl)) (pa_cons (pe_ix ix_tup (pv 3) pe_int (fun _ _ => rfl)) pa_nil)))))
  (pss_cons (ps_if (PW.pt (pw_or (pt_cmpR (op_eqD HR.units) (pv 4) (pe_lst pa_nil) (nomark _)) (pw_or (pt_cmpR op_lt (pe_call (ok_come_to T) (HR.mono (by decide)) (by rfl) T.g_come_to T.F_come_to.kp T.b_come_to .nil pass0 (pa_cons (pv 1) (pa_cons (pv 4) pa_nil))) (pv 1) (nomark _)) (pw_or1 (pt_cmpR op_lt (pe_call (ok_come_to T) (HR.mono (by decide)) (by rfl) T.g_come_to T.F_come_to.kp T.b_come_to .nil pass0 (pa_cons (pv 1) (pa_cons (pv 5) pa_nil))) (pv 1) (nomark _))))))
  (pss_one ps_never) pss_nil)
  (pss_cons (ps_fld (pv 0) (pe_lc (g := (gName 6)) (tt := tYes) (te := (tLst tNil)) (own := [("meeting", 6)]) rfl sc_Web_init.nd (pi_range1 (by rfl) T.n_range (pa_cons (pv 1) pa_nil)) (blkOk_by (own := [("meeting", 6)]) (N := N_Web_init) (sc := defScope s_Web_init) (by decide +kernel)) (fun _ _ _ _ _ => (pg_name (i := 6) sc_Web_init.nd rfl (by first | exact Or.inl rfl | exact Or.inr rfl))) (fun _ _ _ _ _ => pts_nil) (fun _ _ _ _ _ => (pe_lst pa_nil))) rfl)
  (pss_one (ps_for PassesOwn.never rfl (pi_list (pe_fld (pv 0) rfl)) (pg_name (i := 3) sc_Web_init.nd rfl (by first | exact Or.inl rfl | exact Or.inr rfl))
  (pss_one (ps_expr (pe_bm PySem.F.plainAttrs_list PySem.F.slot_list_append PySem.F.type_list_append mt_append (pe_ix ix_list (pe_fld (pv 0) rfl) (pe_ix ix_tup (pv 3) pe_int (fun _ _ => rfl)) (fun _ _ => rfl)) (pa_cons (pe_tup (pa_cons (pe_ix ix_tup (pv 3) pe_int (fun _ _ => rfl)) (pa_cons (pe_ix ix_tup (pv 3) pe_int (fun _ _ => rfl)) pa_nil))) pa_nil))))))))))))))), ?_⟩
    refine q_when (b := false) (et_or (a := false) (et_is (et_test (ev_op (ev_var rfl) ev_c rv_I0)) (decide_eq_false (by omega))) fun _ => et_or (a := false) (et_is (et_test (ev_op (ev_var rfl) ev_c rv_I0)) (decide_eq_false (by omega))) fun _ =>
      et_is (et_test (ev_op (ev_len (ev_var rfl) (sq_of hl)) ev_c rv_I0)) (decide_eq_false (by omega))) (fun z => by cases z) fun _ H1 e1 => ?_
    refine q_fldK (C := RetV (.int (n : Int))) (ev_var rfl) fun H2 e2 => fld_go (p := p) rfl T.cl_Web T.na_many (e2 _ _ (e1 _ _ hp)) (by simp) ?_
    have b2 : ExB p H (upd H2 p (.ins T.a_Web dx (wf1 n))) := (ExB.of (e1.trans e2)).trans .upd
    have n2 : lw0 ≠ p := fun z => by rw [z, hp] at hl; cases hl
    generalize hH3 : upd H2 p (.ins T.a_Web dx (wf1 n)) = H3 at b2
    have p3 : H3 p = some (.ins T.a_Web dx (wf1 n)) := by rw [← hH3, upd_same]
    show tSeq _ _ _ _ (upd H2 p (.ins T.a_Web dx (wf1 n)))
    rw [hH3]
    have l3 : H3 lw0 = some (.lst vw) := b2 _ _ hl n2
    have t3 : Tups H3 vw (ws.map wayV) := hT.exb b2 hp
    refine q_fldK (C := RetL vw) (el_list (ev_var rfl) (sq_of l3)) fun lw H4 hlw e4 h4 => fld_go (p := p) rfl T.cl_Web T.na_ways (e4 _ _ p3) (by have := putF_len ("many" : Str) (.int (n : Int)) []; unfold wf1; simp only [List.length_nil] at this; omega) ?_
    have n4 : lw ≠ p := fun z => by rw [z, p3] at hlw; cases hlw
    have b4 : ExB p H (upd H4 p (.ins T.a_Web dx (wf2 n lw))) := (b2.trans (.of e4)).trans .upd
    have l5 : upd H4 p (.ins T.a_Web dx (wf2 n lw)) lw = some (.lst vw) := by rw [upd_ne n4]; exact h4
    have t5 : Tups (upd H4 p (.ins T.a_Web dx (wf2 n lw))) vw (ws.map wayV) := hT.exb b4 hp
    show tSeq _ _ _ _ (upd H4 p (.ins T.a_Web dx (wf2 n lw)))
    have p5 : upd H4 p (.ins T.a_Web dx (wf2 n lw)) p = some (.ins T.a_Web dx (wf2 n lw)) := upd_same
    generalize upd H4 p (.ins T.a_Web dx (wf2 n lw)) = H5 at b4 l5 t5 p5
    have fld5 : ∀ {σ : L2.St} {H' : Hp} {i : Nat}, Ex H5 H' → σ[i]? = some (some (.ref p)) → Ev (tFld K (tVar i) "ways") σ H' (.ref lw) := fun e h => ev_fld (ev_var h) (e _ _ p5) T.cl_Web T.na_ways (wf2_ways n lw)
    refine q_forL (a := lw) (xs := vw) (fld5 (Ex.refl _) rfl) (sq_of l5) (fun i σ' H' => ∃ r3 : Option V, σ' = [some (.ref p), some (.int (n : Int)), some (.ref lw0), r3, none, none, none] ∧ Ex H5 H') (fun H6 e6 => ⟨none, rfl, e6⟩) (fun i σ' H' _ ⟨_, _, e⟩ => sq_of (e _ _ l5)) ?_ ?_
    · rintro i x σ' H' hx ⟨r3, rfl, e⟩
      obtain ⟨qa, w, rfl, hwi, hmem, hqa⟩ := wayV_at (t5.ex e) hx
      have hends := hw.ends w hmem
      refine q_drop (ev_need (ev_var rfl) (e _ _ p5) (nm_look2 n lw) (wf2_many n lw) (ea_cons (ev_op (ev_var rfl) ev_c (rv_ixT (st_of hqa) rfl)) ea_nil) hends.1) fun H6 e6 => ?_
      refine s_drop (ev_need (ev_var rfl) (e6 _ _ (e _ _ p5)) (nm_look2 n lw) (wf2_many n lw) (ea_cons (ev_op (ev_var rfl) ev_c (rv_ixT (st_of (e6 _ _ hqa)) rfl)) ea_nil) hends.2) fun H7 e7 => ?_
      exact ⟨_, rfl, (e.trans e6).trans e7⟩
    rintro σ' H' ⟨r3, rfl, e6⟩
    refine q_forL (a := lw) (xs := vw) (fld5 e6 rfl) (sq_of (e6 _ _ l5)) (fun i σ' H' => ∃ r3 : Option V, σ' = [some (.ref p), some (.int (n : Int)), some (.ref lw0), r3, none, none, none] ∧ Ex H5 H') (fun H6 e7 => ⟨_, rfl, e6.trans e7⟩) (fun i σ' H' _ ⟨_, _, e⟩ => sq_of (e _ _ l5)) ?_ ?_
    · rintro i x σ' H' hx ⟨r3, rfl, e⟩
      obtain ⟨qa, w, rfl, hwi, hmem, hqa⟩ := wayV_at (t5.ex e) hx
      have hdel := hw.del w hmem
      refine s_when (b := false) (et_or (a := false) (et_is (et_test (ev_op (ev_op (ev_var rfl) ev_c (rv_ixT (st_of hqa) rfl)) ev_c rv_I0)) (decide_eq_false (by omega))) fun _ => et_is (et_test (ev_op (ev_op (ev_var rfl) ev_c (rv_ixT (st_of hqa) rfl)) ev_c rv_I0)) (decide_eq_false (by omega))) (fun z => by cases z) fun _ H7 e7 => ?_
      exact ⟨_, rfl, e.trans e7⟩
    rintro σ' H' ⟨r3', rfl, e7⟩
    refine q_asgK (el_wayPairs (fun w => (w.1, w.2.1)) (fld5 e7 rfl) (e7 _ _ l5) (t5.ex e7) hwl rfl (fun x => rfl) (fun x => rfl) (fun w => rfl) (fun w => rfl)) fun D1 H8 us1 hD1 e8 h8 t8 => ?_
    have e58 := e7.trans e8
    refine q_asgK (el_wayPairs (fun w => (w.2.1, w.1)) (fld5 e58 rfl) (e58 _ _ l5) (t5.ex e58) hwl rfl (fun x => rfl) (fun x => rfl) (fun w => rfl) (fun w => rfl)) fun D2 H9 us2 hD2 e9 h9 t9 => ?_
    have e59 := e58.trans e9
    have c1 : (comeTo n (edges ws)).length = n := comeTo_all hn1 (fun e he => by obtain ⟨w, hw2, rfl⟩ := List.mem_map.mp he; exact hw.ends w hw2) hw.fwd
    have c2 : (comeTo n (redges ws)).length = n := comeTo_all hn1 (fun e he => by obtain ⟨w, hw2, rfl⟩ := List.mem_map.mp he; exact ⟨(hw.ends w hw2).2, (hw.ends w hw2).1⟩) hw.bwd
    have len1 : (edges ws).length ≤ 100 := by unfold edges; rw [List.length_map]; omega
    have len2 : (redges ws).length ≤ 100 := by unfold redges; rw [List.length_map]; omega
    refine q_when (b := false) (et_or (a := false) (et_test (by
        obtain ⟨w0, wr, rfl⟩ := List.exists_cons_of_ne_nil hw.ne
        exact ev_tupsNil (f := fun (p : Nat × Nat) => [(p.1 : Int), (p.2 : Int)]) (ev_var rfl) (e9 _ _ h8) (t8.ex e9))) fun _ =>
      et_or (a := false) (et_is (et_test (ev_op (ev_callV (z := .int (n : Int)) (ea_cons (ev_var rfl) (ea_cons (ev_var rfl) ea_nil)) fun H1 e1 Q E k => ⟨n, D1, edges ws, us1, rfl, e1 _ _ (e9 _ _ h8), (t8.ex e9).ex e1, hn12, len1, by rw [c1]; exact k⟩) (ev_var rfl) rv_I0)) (decide_eq_false (by omega))) fun _ =>
      et_is (et_test (ev_op (ev_callV (z := .int (n : Int)) (ea_cons (ev_var rfl) (ea_cons (ev_var rfl) ea_nil)) fun H1 e1 Q E k => ⟨n, D2, redges ws, us2, rfl, e1 _ _ h9, t9.ex e1, hn12, len2, by rw [c2]; exact k⟩) (ev_var rfl) rv_I0)) (decide_eq_false (by omega))) (fun z => by cases z) fun _ H10 e10 => ?_
    have e510 := e59.trans e10
    refine q_fldK (C := RetOs n (fun _ => .lst [])) (ek_lcR (n := n) (fun _ => .lst []) (ea_cons (ev_var rfl) ea_nil) (by omega) (fun x => rfl) (fun i H1 e1 hi => et_true) fun i H1 e1 hi => by
      have r := el_lst (σ := (wipe [some (.ref p), some (.int (n : Int)), some (.ref lw0), r3', some (.ref D1), some (.ref D2), none] [6]).set 6 (some (.int (i : Int)))) (H := H1) ea_nil (by simp)
      exact fun H3 e3 Q q => r H3 e3 Q fun p H4 hp4 e4 h4 => q p H4 hp4 e4 h4) fun D H11 ps hD e11 h11 hN => fld_go (p := p) rfl T.cl_Web T.na_inner (e11 _ _ (e510 _ _ p5)) (by
        have h1 := putF_len ("many" : Str) (.int (n : Int)) []
        have h2 := putF_len ("ways" : Str) (.ref lw) (wf1 n)
        unfold wf2
        unfold wf1 at h2 ⊢
        simp only [List.length_nil] at h1
        omega) ?_
    have p10 := e510 _ _ p5
    have l10 := e510 _ _ l5
    have t10 := t5.ex e510
    have nDp : D ≠ p := fun z => by rw [z, p10] at hD; cases hD
    have nps : ∀ a ∈ ps, a ≠ p ∧ a ≠ lw ∧ a ≠ D := fun a ha => ⟨fun z => (by have := hN.fresh a ha; rw [z, p10] at this; cases this), fun z => (by have := hN.fresh a ha; rw [z, l10] at this; cases this), fun z => hN.out (z ▸ ha)⟩
    have b11 : ExB p H10 (upd H11 p (.ins T.a_Web dx (webF n lw D))) := (ExB.of e11).trans .upd
    have b0 : ExB p H H10 := b4.trans (.of e510)
    refine s_forL (a := lw) (xs := vw) (ev_fld (p := p) (ev_var rfl) upd_same T.cl_Web T.na_ways (by
      rw [lookup_putF, if_neg n_wi, wf2_ways])) (sq_of (b11 _ _ l10 n4)) (fun i σ' H' => ∃ r3 : Option V, σ' = [some (.ref p), some (.int (n : Int)), some (.ref lw0), r3, some (.ref D1), some (.ref D2), none] ∧ H' p = some (.ins T.a_Web dx (webF n lw D)) ∧ H' D = some (.lst (ps.map V.ref)) ∧ InnAt H' ps n (ws.take i) ∧ ExB p H10 H')
      (fun H12 e12 => ⟨_, rfl, e12 _ _ upd_same, e12 _ _ (by rw [upd_ne nDp]; exact h11), fun m hm => ?_, b11.trans (.of e12)⟩) (fun i σ' H' _ ⟨_, _, _, _, _, e⟩ => sq_of (e _ _ l10 n4)) ?_ ?_
    · obtain ⟨lm, hlm⟩ : ∃ lm, ps[m]? = some lm := ⟨ps[m]'(by rw [hN.len]; exact hm), List.getElem?_eq_getElem _⟩
      exact ⟨lm, [], hlm, e12 _ _ (by rw [upd_ne (nps lm (List.mem_of_getElem? hlm)).1]; exact hN.at_ m lm hlm), Tups.nil⟩
    · rintro i x σ' H' hx ⟨r3, rfl, hp', hD', hI, e⟩
      obtain ⟨qa, w, rfl, hwi, hmem, hqa⟩ := wayV_at (t10.exb e p10) hx
      obtain ⟨lm, vm, k1, k2, k3⟩ := hI _ (hw.ends w hmem).2
      have hvm : vm.length ≤ 60 := by
        have := k3.1
        rw [List.length_map] at this
        have h2 := inn_len (ws.take i) w.2.1
        rw [List.length_take] at h2
        omega
      have hmm := nps lm (List.mem_of_getElem? k1)
      refine s_appU (l := lm) (xs := vm) k2 (ev_op (ev_fld (ev_var rfl) hp' T.cl_Web T.na_inner (webF_inner n lw D)) (ev_op (ev_var rfl) ev_c (rv_ixT (st_of hqa) rfl)) (rv_ixL (sq_of hD') (at_nat (j := w.2.1) (by rw [List.getElem?_map, k1]; rfl)))) (eu_tup (ea_cons (ev_op (ev_var rfl) ev_c (rv_ixT (st_of hqa) rfl)) (ea_cons (ev_op (ev_var rfl) ev_c (rv_ixT (st_of hqa) rfl)) ea_nil)) (by simp)) (by omega) fun q2 H13 hq2 e13 h13 => ?_
      refine ⟨_, rfl, by rw [upd_ne (Ne.symm hmm.1)]; exact e13 _ _ hp', by rw [upd_ne (Ne.symm hmm.2.2)]; exact e13 _ _ hD', ?_, ?_⟩
      · exact InnAt.snoc (fun m hm => by obtain ⟨a, b, c1, c2, c3⟩ := hI m hm; exact ⟨a, b, c1, e13 _ _ c2, c3.ex e13⟩) hwi hN.nd k1 (e13 _ _ k2) (k3.ex e13) h13
      · intro b o hb hne
        have hbl : b ≠ lm := fun z => by have := hN.fresh lm (List.mem_of_getElem? k1); rw [← z, hb] at this; cases this
        rw [upd_ne hbl]
        exact e13 _ _ (e b o hb hne)
    · rintro σ' H' ⟨r3, rfl, hp', hD', hI, e⟩
      have hl0 := b0 _ _ hl n2
      have hl' := e _ _ hl0 n2
      have m1 : lw ≠ lw0 := fun z => by rw [z, l3] at hlw; cases hlw
      have m2 : D ≠ lw0 := fun z => by rw [z, hl0] at hD; cases hD
      refine q H' ⟨dx, lw, D, vw, ps.map V.ref, hp', e _ _ l10 n4, t10.exb e p10, hD', by rw [List.length_map, hN.len], fun m hm => ?_⟩ (b0.trans e) fun xs => ⟨dx, lw, D, vw, ps.map V.ref, by rw [upd_ne (Ne.symm n2)]; exact hp', by rw [upd_ne m1]; exact e _ _ l10 n4, (t10.exb e p10).upd hl', by rw [upd_ne m2]; exact hD', by rw [List.length_map, hN.len], fun m hm => ?_⟩
      · obtain ⟨lm, vm, k1, k2, k3⟩ := hI m hm
        rw [List.take_of_length_le (by omega)] at k3
        exact ⟨lm, vm, by rw [List.getElem?_map, k1]; rfl, k2, k3⟩
      · obtain ⟨lm, vm, k1, k2, k3⟩ := hI m hm
        rw [List.take_of_length_le (by omega)] at k3
        exact ⟨lm, vm, by rw [List.getElem?_map, k1]; rfl, by rw [upd_ne fun z => by have := hN.fresh lm (List.mem_of_getElem? k1); rw [z, hl0] at this; cases this]; exact k2, k3.upd hl'⟩
/-! ### lists of tuples told anew; webs made -/
def RetT (xss : List (List V)) (H : Hp) (Q : VK) : Prop := ∀ D H2 us, H D = none → Ex H H2 → H2 D = some (.lst us) → Tups H2 us xss → Q (.ref D) H2
theorem mo_t {xss : List (List V)} : Mo (RetT xss) := fun _ _ _ e k D H3 us hD e3 h3 t => k D H3 us (fresh_back e hD) (e.trans e3) h3 t
def RetW (C : Addr) (n : Nat) (ws : List Way) (H : Hp) (Q : VK) : Prop := ∀ p H2, H p = none → Ex H H2 → WebAt C H2 p n ws → Q (.ref p) H2
theorem mo_w {C : Addr} {n : Nat} {ws : List Way} : Mo (RetW C n ws) := fun _ _ _ e k p H3 hp e3 h => k p H3 (fresh_back e hp) (e.trans e3) h
/-- [tuple of each x for x in tuples] -/
theorem ek_lcT {α : Type} {f g : α → List V} {xs : List α} {vw : List V} {K : PySem.W.Frag} {σ : L2.St} {H : Hp} {tl te : TE} {j : Nat} {vs : List Nat} (d : α) (h : EvS K tl σ H vw) (hT : Tups H vw (xs.map f)) (hz : xs.length ≤ 40000)
    (hw : ∀ x, wipe ((wipe σ vs).set j (some x)) vs = wipe σ vs) (he : ∀ (x : α) (q : Addr) H1, Ex H H1 → x ∈ xs → H1 q = some (.tup (f x)) → EvU te ((wipe σ vs).set j (some (.ref q))) H1 (g x)) :
    EvK (tLc (iList K tl) (gName j) tYes te vs) σ H (RetT (xs.map g)) := by
  have hlen : vw.length = xs.length := hT.1.trans (List.length_map _)
  intro H1 e1 Q q
  refine ek_lcS (K := K) (fun n => (wipe σ vs).set j (some (vw.getD n .non))) (fun n => .tup (g (xs.getD n d))) h (by omega) (fun n x H2 e2 hx Q qq => by rw [getD_of hx] at qq; exact qq) (fun n x hx => hw _) (fun n x H2 e2 hx => et_true) (fun n x H2 e2 hx => ?_) H1 e1 Q ?_
  · obtain ⟨q, y, rfl, hy, hq⟩ := (hT.ex e2).at hx
    rw [List.getElem?_map] at hy
    obtain ⟨w, hw2, rfl⟩ := Option.map_eq_some_iff.mp hy
    rw [getD_of hx, getD_of hw2]
    have r := he w q H2 e2 (List.mem_of_getElem? hw2) hq
    exact fun H3 e3 Q q => r H3 e3 Q fun p H4 hp4 e4 h4 => q p H4 hp4 e4 h4
  · intro D H2 ps hD e2 h2 hn
    refine q D H2 _ hD e2 h2 ?_
    have t := tups_new hn
    rw [hlen, map_getD xs d g] at t
    exact t
theorem ea_consK {σ : L2.St} {H : Hp} {ta : TE} {tr : TA} {v : V} {C : Hp → VK → Prop} (h : Ev ta σ H v) (k : EvK ta σ H C) : True := trivial
/-- Web(n, ways): a web that is new -/
theorem ek_make {C : Addr} {σ : L2.St} {H : Hp} {E : XK} {ta tb : TE} {n : Nat} {ws : List Way} (ha : Ev ta σ H (.int (n : Int))) (hb : EvK tb σ H (RetT (ws.map wayV))) (hw : WebOk n ws) : EvK (tMake C (sp_Web_init C) [] E (tCons ta (tCons tb tNil))) σ H (RetW C n ws) := by
  intro H1 e1 Q q
  refine ha H1 e1 _ fun H2 e2 => hb H2 (e1.trans e2) _ fun D H3 us hD e3 h3 t3 => ?_
  intro x dx hx hdx hne
  have e13 := e2.trans e3
  have eX : Ex H3 (upd (upd H3 dx (.own x)) x (.ins C dx [])) := by
    intro b o hb
    rw [upd_ne (fun z => by rw [z, hx] at hb; cases hb), upd_ne (fun z => by rw [z, hdx] at hb; cases hb)]
    exact hb
  refine ⟨x, dx, D, n, ws, us, rfl, upd_same, eX _ _ h3, t3.ex eX, hw, fun H' hW hB _ => ⟨rfl, q x H' (fresh_back e13 hx) (fun b o hb => ?_) hW⟩⟩
  have hb3 := e13 _ _ hb
  exact hB b o (eX _ _ hb3) fun z => by rw [z, hx] at hb3; cases hb3
/-- [e for one, delay in web.into(m)] -/
theorem el_overInto {C : Addr} {p : Addr} {n m : Nat} {ws : List Way} {K : PySem.W.Frag} {σ : L2.St} {H : Hp} {E : XK} {ta te : TE} {t : TA} {i j : Nat} {vs : List Nat} (v : Nat × Nat → V) (hW : WebAt C H p n ws) (hm : m < n) (hl : ws.length ≤ 60) (ha : Ev ta σ H (.ref p)) (ht : EvA t σ H [.int (m : Int)])
    (hw : ∀ x y, wipe (((wipe σ vs).set i (some x)).set j (some y)) vs = wipe σ vs)
    (he : ∀ pr : Nat × Nat, pr ∈ inn ws m → ∀ H1, Ex H H1 → Ev te (((wipe σ vs).set i (some (.int (pr.1 : Int)))).set j (some (.int (pr.2 : Int)))) H1 (v pr)) :
    EvL (tLc (iList K (tMeth C "into" (sp_Web_into C) [] E ta t)) (gTup K 2 (gCons (gName i) (gCons (gName j) gNil))) tYes te vs) σ H ((inn ws m).map v) := by
  obtain ⟨vm, k3, hev⟩ := el_into hW hm
  have hlen : vm.length = (inn ws m).length := k3.1.trans (List.length_map _)
  have r := el_lcS (K := K) (σ := σ) (H := H) (xs := vm) (tl := tMeth C "into" (sp_Web_into C) [] E ta t) (g := gTup K 2 (gCons (gName i) (gCons (gName j) gNil))) (t := tYes) (te := te) (vs := vs)
    (fun k => ((wipe σ vs).set i (some (.int (((inn ws m).getD k (0, 0)).1 : Int)))).set j (some (.int (((inn ws m).getD k (0, 0)).2 : Int)))) (fun _ => true) (fun k => v ((inn ws m).getD k (0, 0)))
    (es_new (hev H σ E ta t (Ex.refl H) ha ht)) (by have := inn_len ws m; omega)
    (fun k x H3 e3 hx Q qq => by
      obtain ⟨p2, xv, rfl, hxv, hp2⟩ := (k3.ex e3).at hx
      rw [List.getElem?_map] at hxv
      obtain ⟨pr, hpr, rfl⟩ := Option.map_eq_some_iff.mp hxv
      rw [getD_of hpr] at qq
      exact g_tup2 hp2 qq)
    (fun k x hx => hw _ _) (fun k x H3 e3 hx => et_true)
    (fun k x H3 e3 hx _ => by
      obtain ⟨p2, xv, rfl, hxv, hp2⟩ := (k3.ex e3).at hx
      rw [List.getElem?_map] at hxv
      obtain ⟨pr, hpr, rfl⟩ := Option.map_eq_some_iff.mp hxv
      rw [getD_of hpr]
      exact he pr (List.mem_of_getElem? hpr) H3 e3)
  rw [given_all, hlen, map_getD (inn ws m) (0, 0) v] at r
  exact r
/-! the next times -/
def nxt (ws : List Way) (ts : List Int) (m : Nat) : Int := mxI ((inn ws m).map fun p => ts.getD p.1 0 + (p.2 : Int))
def stepT (n : Nat) (ws : List Way) (ts : List Int) : List Int := (List.range n).map (nxt ws ts)
theorem stepT_len (n : Nat) (ws : List Way) (ts : List Int) : (stepT n ws ts).length = n := by
  unfold stepT
  rw [List.length_map, List.length_range]
def intV (ts : List Int) : List V := ts.map V.int
theorem intV_at {ts : List Int} {i : Nat} (h : i < ts.length) : (intV ts)[i]? = some (.int (ts.getD i 0)) := by
  unfold intV
  rw [List.getElem?_map, List.getElem?_eq_getElem h, List.getD_eq_getElem?_getD, List.getElem?_eq_getElem h]
  rfl
theorem intV_len (ts : List Int) : (intV ts).length = ts.length := List.length_map _
theorem intV_app (xs ys : List Int) : intV (xs ++ ys) = intV xs ++ intV ys := List.map_append
theorem range_snoc {α : Type} (f : Nat → α) (i : Nat) : (List.range (i + 1)).map f = (List.range i).map f ++ [f i] := by
  rw [List.range_succ, List.map_append]
  rfl
theorem NewObjs.snoc {H H' H2 : Hp} {D q : Addr} {n : Nat} {o : Nat → HO} {ps : List Addr} {u : HO} (h : NewObjs H H' D n o ps) (hD : H' D = some u) (e0 : Ex H H') (e : Ex H' H2) (hq : H' q = none) (h2 : H2 q = some (o n)) : NewObjs H (upd H2 D (.lst ((ps ++ [q]).map V.ref))) D (n + 1) o (ps ++ [q]) := by
  have hqD : q ≠ D := fun z => by rw [z, hD] at hq; cases hq
  have hqn : q ∉ ps := fun z => by
    obtain ⟨j, hj⟩ := List.mem_iff_getElem?.mp z
    have w := h.at_ j q hj
    rw [hq] at w
    cases w
  refine ⟨by rw [List.length_append, h.len]; rfl, List.nodup_append.mpr ⟨h.nd, by simp, fun a ha b hb => ?_⟩, fun z => ?_, fun a ha => ?_, fun j a ha => ?_⟩
  · rintro rfl
    exact hqn (by rw [List.mem_singleton.mp hb] at ha; exact ha)
  · rcases List.mem_append.mp z with z | z
    · exact h.out z
    · exact hqD (List.mem_singleton.mp z).symm
  · rcases List.mem_append.mp ha with z | z
    · exact h.fresh a z
    · rw [List.mem_singleton.mp z]
      exact fresh_back e0 hq
  · by_cases hj : j < ps.length
    · rw [List.getElem?_append_left hj] at ha
      have hne : a ≠ D := fun z => h.out (by rw [← z]; exact List.mem_of_getElem? ha)
      rw [upd_ne hne]
      exact e _ _ (h.at_ j a ha)
    · have hj2 : j = ps.length := by
        have := (List.getElem?_eq_some_iff.mp ha).1
        rw [List.length_append] at this
        simp at this
        omega
      subst hj2
      rw [List.getElem?_append_right (Nat.le_refl _), Nat.sub_self] at ha
      obtain rfl : q = a := by simpa using ha
      rw [upd_ne hqD, h.len]
      exact h2
theorem NewObjs.mono {H H' H2 : Hp} {D : Addr} {n : Nat} {o : Nat → HO} {ps : List Addr} (h : NewObjs H H' D n o ps) (e : Ex H' H2) : NewObjs H H2 D n o ps := ⟨h.len, h.nd, h.out, h.fresh, fun i p hp => e _ _ (h.at_ i p hp)⟩
/-- [x] of a new list x -/
theorem ek_lst1L {σ : L2.St} {H : Hp} {te : TE} {xs : List V} (h : EvL te σ H xs) : EvK (tLst (tCons te tNil)) σ H (RetOs 1 (fun _ => .lst xs)) := fun H1 e Q q =>
  h H1 e _ fun p H2 hp e2 h2 => by
    refine ⟨by simp [sizeLine_eq], fun D hD => q D _ [p] (fresh_back e2 hD) (e2.trans (Ex.new hD)) upd_same ⟨rfl, by simp, fun z => ?_, fun a ha => ?_, fun i a ha => ?_⟩⟩
    · rw [List.mem_singleton.mp z] at hD
      rw [h2] at hD
      cases hD
    · rw [List.mem_singleton.mp ha]
      exact hp
    · have : a = p := by
        have := List.mem_of_getElem? ha
        exact List.mem_singleton.mp this
      subst this
      rw [upd_ne fun z => by rw [z, hD] at h2; cases h2]
      exact h2
/-- the times behind i turns -/
def rowT (n : Nat) (ws : List Way) (ts : List Int) : Nat → List Int
  | 0 => ts
  | i + 1 => stepT n ws (rowT n ws ts i)
theorem rowT_len {n : Nat} {ws : List Way} {ts : List Int} (h : ts.length = n) : ∀ i, (rowT n ws ts i).length = n
  | 0 => h
  | i + 1 => stepT_len _ _ _
def sp_Web_ahead (C : Addr) : Sp := fun vs H Q _ => ∃ (p a : Addr) (n : Nat) (ws : List Way) (ts : List Int), vs = [.ref p, .ref a] ∧ WebAt C H p n ws ∧ WebOk n ws ∧ H a = some (.lst (intV ts)) ∧ ts.length = n ∧ RetL (intV (stepT n ws ts)) H Q
abbrev s_Web_ahead : Stmt := (inClass (top 26) 4)
abbrev N_Web_ahead : List Str := ["self", "times", "found", "meeting", "one", "delay"]
theorem sc_Web_ahead : FnScope N_Web_ahead ["self", "times"] (defScope s_Web_ahead) := ⟨rfl, rfl, rfl, by decide +kernel, rfl, by decide +kernel, by decide +kernel⟩

theorem ok_Web_ahead (T : Txt K mg) : FnOk P w K mg base CX0 3 T.a_Web_ahead T.d_Web_ahead ["self", "times"] (sp_Web_ahead T.a_Web) := by
  refine okN T.F_Web_ahead sc_Web_ahead (fun vs H Q E h => ?_) (fun cdv A outer s H vs Q E HR h => ?_)
  · obtain ⟨p, a, n, ws, ts, rfl, _⟩ := h
    rfl
  · obtain ⟨p, a, n, ws, ts, rfl, hW, hw, ha, htl, q⟩ := h
    have hW0 := hW
    obtain ⟨dx, lw, li, vw, vi, h1, _⟩ := hW0
    have hn12 := hw.n12
    refine ⟨_, (pss_cons (ps_if (pt_cmpR op_ne (pe_callB call_len_seq (by rfl) T.n_len boot_len (pa_cons (pv 1) pa_nil)) (pe_fld (pv 0) rfl) (nomark _))
  (pss_one ps_never) pss_nil)
  (pss_cons (ps_set (i := 2) sc_Web_ahead.nd rfl (by first | exact Or.inl rfl | exact Or.inr rfl) (pe_lst pa_nil))
  (pss_cons (ps_for PassesOwn.never rfl (pi_range1 (by rfl) T.n_range (pa_cons (pe_fld (pv 0) rfl) pa_nil)) (pg_name (i := 3) sc_Web_ahead.nd rfl (by first | exact Or.inl rfl | exact Or.inr rfl))
  (pss_one (ps_expr (pe_bm PySem.F.plainAttrs_list PySem.F.slot_list_append PySem.F.type_list_append mt_append (pv 2) (pa_cons (pe_callB (cr_max rfl) (by rfl) T.n_max (by decide +kernel) (pa_cons (pe_lc (g := (gTup K 2 (gCons (gName 4) (gCons (gName 5) gNil)))) (tt := tYes) (te := (tOp (rI0 fun i j => .int (i + j)) (tOp (rIxL K) (tVar 1) (tVar 4)) (tVar 5))) (own := [("one", 4), ("delay", 5)]) rfl sc_Web_ahead.nd (pi_list (pe_meth (pv 0) T.cl_Web T.m_Web_into (ok_Web_into T) (HR.mono (by decide)) T.b_Web_into .nil pass0 (pa_cons (pv 3) pa_nil))) (blkOk_by (own := [("one", 4), ("delay", 5)]) (N := N_Web_ahead) (sc := defScope s_Web_ahead) (by decide +kernel)) (fun _ _ _ _ _ => (pg_tup rfl (pgs_cons (pg_name (i := 4) sc_Web_ahead.nd rfl (by first | exact Or.inl rfl | exact Or.inr rfl)) (pgs_cons (pg_name (i := 5) sc_Web_ahead.nd rfl (by first | exact Or.inl rfl | exact Or.inr rfl)) pgs_nil)))) (fun _ _ _ _ _ => pts_nil) (fun _ _ _ _ _ => (pe_op op_add (pe_ix ix_list (pv 1) (pv 4) (fun _ _ => rfl)) (pv 5)))) pa_nil)) pa_nil)))))
  (pss_one (ps_ret (pv 2)))))), ?_⟩
    refine q_when (b := false) (et_is (et_test (ev_op (ev_len (ev_var rfl) (sq_of ha)) (ev_fld (ev_var rfl) h1 T.cl_Web T.na_many (webF_many n lw li)) (rv_ne rfl))) (by rw [intV_len, htl]; simp)) (fun z => by cases z) fun _ H1 e1 => ?_
    refine q_asgL (el_lst ea_nil (by simp)) fun l H2 hl e2 h2 => ?_
    have e02 := e1.trans e2
    refine q_forR1 (n := (n : Int)) (ea_cons (ev_fld (ev_var rfl) (e02 _ _ h1) T.cl_Web T.na_many (webF_many n lw li)) ea_nil) ⟨by omega, by omega⟩ (fun i σ' H' => ∃ (r3 : Option V), σ' = [some (.ref p), some (.ref a), some (.ref l), r3, none, none] ∧ H' l = some (.lst (intV ((List.range i).map (nxt ws ts)))) ∧ Ex H H')
      (fun H3 e3 => ⟨none, rfl, e3 _ _ h2, e02.trans e3⟩) ?_ ?_
    · rintro i σ' H' hi ⟨r3, rfl, hl', e⟩
      have hi2 : i < n := by omega
      have hne := hw.inn_ne hi2
      have hll : H l = none := fresh_back e1 hl
      refine s_app (l := l) hl' (ev_var rfl) (v := .int (nxt ws ts i)) (ev_max (ns := (inn ws i).map fun p => ts.getD p.1 0 + (p.2 : Int)) (es_new ?_) (by simpa using hne)) (by rw [intV_len, List.length_map, List.length_range]; omega) fun H4 e4 => ?_
      · have r := el_overInto (K := K) (C := T.a_Web) (p := p) (n := n) (m := i) (ws := ws) (H := H') (σ := [some (.ref p), some (.ref a), some (.ref l), some (.int (i : Int)), none, none]) (E := E0) (ta := tVar 0) (t := tCons (tVar 3) tNil) (te := tOp (rI0 fun i j => V.int (i + j)) (tOp (rIxL K) (tVar 1) (tVar 4)) (tVar 5)) (i := 4) (j := 5) (vs := [4, 5])
          (fun p => .int (ts.getD p.1 0 + (p.2 : Int))) (hW.ex e) hi2 hw.len (ev_var rfl) (ea_cons (ev_var rfl) ea_nil) (fun x y => rfl) fun pr hpr H5 e5 => ev_op (ev_op (ev_var rfl) (ev_var rfl) (rv_ixL (sq_of (e5 _ _ (e _ _ ha))) (at_nat (intV_at (by rw [htl]; exact (inn_lt hw hpr).1))))) (ev_var rfl) rv_I0
        rw [show ((inn ws i).map fun p => ts.getD p.1 0 + (p.2 : Int)).map V.int = (inn ws i).map (fun p => V.int (ts.getD p.1 0 + (p.2 : Int))) by rw [List.map_map]; rfl]
        exact r
      · refine ⟨_, rfl, ?_, Ex.mut (e.trans e4) hll⟩
        rw [upd_same, range_snoc, intV_app]
        rfl
    · rintro σ' H' ⟨r3, rfl, hl', e⟩
      have hll : H l = none := fresh_back e1 hl
      refine s_ret (ev_var rfl) fun H4 e4 => q l H4 hll (e.trans e4) ?_
      rw [e4 _ _ hl']
      rfl
theorem ahead_no (n : Nat) (lw li : Addr) : (webF n lw li).lookup ("ahead" : Str) = none := by
  have h : ¬ (("ahead" : Str) = "many") ∧ ¬ (("ahead" : Str) = "ways") ∧ ¬ (("ahead" : Str) = "inner") := by decide +kernel
  exact webF_no n lw li h.1 h.2.1 h.2.2
/-- web.ahead(x) of times x -/
theorem el_ahead {C : Addr} {H : Hp} {p : Addr} {n : Nat} {ws : List Way} (hW : WebAt C H p n ws) (hw : WebOk n ws) {ts : List Int} (hl : ts.length = n) {σ : L2.St} {E : XK} {ta : TE} {t : TA} (ha : Ev ta σ H (.ref p)) {a : Addr} (ht : EvA t σ H [.ref a]) (hx : H a = some (.lst (intV ts))) :
    EvL (tMeth C "ahead" (sp_Web_ahead C) [] E ta t) σ H (intV (stepT n ws ts)) := by
  have hW2 := hW
  obtain ⟨dx, lw, li, vw, vi, h1, h2, h3, h4, h5, h6⟩ := hW
  exact ek_meth mo_l ha h1 (ahead_no n lw li) ht fun H1 e1 Q E q => ⟨p, a, n, ws, ts, rfl, hW2.ex e1, hw, e1 _ _ hx, hl, q⟩
theorem turns_no (n : Nat) (lw li : Addr) : (webF n lw li).lookup ("turns" : Str) = none := by
  have h : ¬ (("turns" : Str) = "many") ∧ ¬ (("turns" : Str) = "ways") ∧ ¬ (("turns" : Str) = "inner") := by decide +kernel
  exact webF_no n lw li h.1 h.2.1 h.2.2
def sp_Web_turns (C : Addr) : Sp := fun vs H Q _ => ∃ (p a : Addr) (n k : Nat) (ws : List Way) (ts : List Int), vs = [.ref p, .ref a, .int (k : Int)] ∧ WebAt C H p n ws ∧ WebOk n ws ∧ H a = some (.lst (intV ts)) ∧ ts.length = n ∧ k ≤ 1000 ∧ RetOs (k + 1) (fun i => .lst (intV (rowT n ws ts i))) H Q
abbrev s_Web_turns : Stmt := (inClass (top 26) 5)
abbrev N_Web_turns : List Str := ["self", "times", "count", "found", "turn"]
theorem sc_Web_turns : FnScope N_Web_turns ["self", "times", "count"] (defScope s_Web_turns) := ⟨rfl, rfl, rfl, by decide +kernel, rfl, by decide +kernel, by decide +kernel⟩

theorem ok_Web_turns (T : Txt K mg) : FnOk P w K mg base CX0 4 T.a_Web_turns T.d_Web_turns ["self", "times", "count"] (sp_Web_turns T.a_Web) := by
  refine okN T.F_Web_turns sc_Web_turns (fun vs H Q E h => ?_) (fun cdv A outer s H vs Q E HR h => ?_)
  · obtain ⟨p, a, n, k, ws, ts, rfl, _⟩ := h
    rfl
  · obtain ⟨p, a, n, k, ws, ts, rfl, hW, hw, ha, htl, hk, q⟩ := h
    have hW0 := hW
    obtain ⟨dx, lw, li, vw, vi, h1, _⟩ := hW0
    have hn12 := hw.n12
    refine ⟨_, (pss_cons (ps_set (i := 3) sc_Web_turns.nd rfl (by first | exact Or.inl rfl | exact Or.inr rfl) (pe_lst (pa_cons (pe_callTy call_list_of (by rfl) T.n_list (by decide +kernel) (pa_cons (pv 1) pa_nil)) pa_nil)))
  (pss_cons (ps_if (pt_cmpR op_ne (pe_callB call_len_seq (by rfl) T.n_len boot_len (pa_cons (pv 1) pa_nil)) (pe_fld (pv 0) rfl) (nomark _))
  (pss_one ps_never) pss_nil)
  (pss_cons (ps_for PassesOwn.never rfl (pi_range1 (by rfl) T.n_range (pa_cons (pv 2) pa_nil)) (pg_name (i := 4) sc_Web_turns.nd rfl (by first | exact Or.inl rfl | exact Or.inr rfl))
  (pss_one (ps_expr (pe_bm PySem.F.plainAttrs_list PySem.F.slot_list_append PySem.F.type_list_append mt_append (pv 3) (pa_cons (pe_meth (pv 0) T.cl_Web T.m_Web_ahead (ok_Web_ahead T) (HR.mono (by decide)) T.b_Web_ahead .nil pass0 (pa_cons (pe_ix ix_list (pv 3) (pe_un un_neg pe_int) (fun _ _ => rfl)) pa_nil)) pa_nil)))))
  (pss_one (ps_ret (pv 3)))))), ?_⟩
    refine q_asgK (ek_lst1L (el_list (ev_var rfl) (sq_of ha))) fun l H1 ps0 hl e1 h1l hN0 => ?_
    refine q_when (b := false) (et_is (et_test (ev_op (ev_len (ev_var rfl) (sq_of (e1 _ _ ha))) (ev_fld (ev_var rfl) (e1 _ _ h1) T.cl_Web T.na_many (webF_many n lw li)) (rv_ne rfl))) (by rw [intV_len, htl]; simp)) (fun z => by cases z) fun _ H2 e2 => ?_
    have e02 := e1.trans e2
    refine q_forR1 (n := (k : Int)) (ea_cons (ev_var rfl) ea_nil) ⟨by omega, by omega⟩ (fun i σ' H' => ∃ (r4 : Option V) (ps : List Addr), σ' = [some (.ref p), some (.ref a), some (.int (k : Int)), some (.ref l), r4] ∧ H' l = some (.lst (ps.map V.ref)) ∧ Ex H H' ∧ NewObjs H H' l (i + 1) (fun i => .lst (intV (rowT n ws ts i))) ps)
      (fun H3 e3 => ⟨none, ps0, rfl, e3 _ _ (e2 _ _ h1l), e02.trans e3, (⟨hN0.len, hN0.nd, hN0.out, hN0.fresh, fun i q hq => by
        have hi := (List.getElem?_eq_some_iff.mp hq).1
        rw [hN0.len] at hi
        obtain rfl : i = 0 := by omega
        exact (e2.trans e3) _ _ (hN0.at_ 0 q hq)⟩ : NewObjs _ _ _ _ _ _)⟩) ?_ ?_
    · rintro i σ' H' hi ⟨r4, ps, rfl, hl', e, hN⟩
      obtain ⟨q1, hq1⟩ : ∃ q1, ps[i]? = some q1 := ⟨ps[i]'(by rw [hN.len]; omega), List.getElem?_eq_getElem _⟩
      have hlast : (ps.map V.ref)[(ps.map V.ref).length - 1]? = some (.ref q1) := by
        rw [List.length_map, hN.len, List.getElem?_map, Nat.add_sub_cancel, hq1]
        rfl
      refine s_appL (l := l) hl' (ev_var rfl) (ys := intV (stepT n ws (rowT n ws ts i))) (el_ahead (hW.ex e) hw (rowT_len htl i) (ev_var rfl) (ea_cons (ev_op (ev_var rfl) (ev_un ev_c ru_neg) (rv_ixL (sq_of hl') (at_last hlast))) ea_nil) (hN.at_ i q1 hq1)) (by rw [List.length_map, hN.len]; omega) fun q2 H4 hq2 e4 h4 => ?_
      refine ⟨_, ps ++ [q2], rfl, ?_, Ex.mut (e.trans e4) hl, ?_⟩
      · rw [upd_same, List.map_append]
        rfl
      · have := hN.snoc hl' e e4 hq2 h4
        rw [List.map_append] at this
        exact this
    · rintro σ' H' ⟨r4, ps, rfl, hl', e, hN⟩
      refine s_ret (ev_var rfl) fun H4 e4 => q l H4 ps hl (e.trans e4) (e4 _ _ hl') (hN.mono e4)
theorem turned_no (n : Nat) (lw li : Addr) : (webF n lw li).lookup ("turned" : Str) = none := by
  have h : ¬ (("turned" : Str) = "many") ∧ ¬ (("turned" : Str) = "ways") ∧ ¬ (("turned" : Str) = "inner") := by decide +kernel
  exact webF_no n lw li h.1 h.2.1 h.2.2
abbrev s_Web_turned : Stmt := (inClass (top 26) 6)
abbrev N_Web_turned : List Str := ["self", "way"]
theorem sc_Web_turned : FnScope N_Web_turned ["self"] (defScope s_Web_turned) := ⟨rfl, rfl, rfl, by decide +kernel, rfl, by decide +kernel, by decide +kernel⟩

def sp_Web_turned (C : Addr) : Sp := fun vs H Q _ => ∃ (p : Addr) (n : Nat) (ws : List Way), vs = [.ref p] ∧ WebAt C H p n ws ∧ WebOk n ws ∧ RetW C n (turn ws) H Q
theorem ok_Web_turned (T : Txt K mg) : FnOk P w K mg base CX0 4 T.a_Web_turned T.d_Web_turned ["self"] (sp_Web_turned T.a_Web) := by
  refine okN T.F_Web_turned sc_Web_turned (fun vs H Q E h => ?_) (fun cdv A outer s H vs Q E HR h => ?_)
  · obtain ⟨p, n, ws, rfl, _⟩ := h
    rfl
  · obtain ⟨p, n, ws, rfl, hW, hw, q⟩ := h
    obtain ⟨dx, lw, li, vw, vi, h1, h2, h3, _⟩ := hW
    have hl := hw.len
    refine ⟨_, (pss_one (ps_ret (pe_make T.M_Web (ok_Web_init T) (HR.mono (by decide)) (by rfl) T.g_Web T.b_Web_init .nil pass0 (pa_cons (pe_fld (pv 0) rfl) (pa_cons (pe_lc (g := (gName 1)) (tt := tYes) (te := (tTup (tCons (tOp (rIxT K) (tVar 1) (tC (.int 1))) (tCons (tOp (rIxT K) (tVar 1) (tC (.int 0))) (tCons (tOp (rIxT K) (tVar 1) (tC (.int 2))) tNil))))) (own := [("way", 1)]) rfl sc_Web_turned.nd (pi_list (pe_fld (pv 0) rfl)) (blkOk_by (own := [("way", 1)]) (N := N_Web_turned) (sc := defScope s_Web_turned) (by decide +kernel)) (fun _ _ _ _ _ => (pg_name (i := 1) sc_Web_turned.nd rfl (by first | exact Or.inl rfl | exact Or.inr rfl))) (fun _ _ _ _ _ => pts_nil) (fun _ _ _ _ _ => (pe_tup (pa_cons (pe_ix ix_tup (pv 1) pe_int (fun _ _ => rfl)) (pa_cons (pe_ix ix_tup (pv 1) pe_int (fun _ _ => rfl)) (pa_cons (pe_ix ix_tup (pv 1) pe_int (fun _ _ => rfl)) pa_nil)))))) pa_nil))))), ?_⟩
    refine s_retK (ek_make (ev_fld (ev_var rfl) h1 T.cl_Web T.na_many (webF_many n lw li)) ?_ hw.turn) q
    have r := ek_lcT (K := K) (σ := [some (.ref p), none]) (H := H) (tl := tFld K (tVar 0) "ways") (te := tTup (tCons (tOp (rIxT K) (tVar 1) (tC (.int 1))) (tCons (tOp (rIxT K) (tVar 1) (tC (.int 0))) (tCons (tOp (rIxT K) (tVar 1) (tC (.int 2))) tNil)))) (j := 1) (vs := [1]) (f := wayV) (g := fun w => wayV (w.2.1, w.1, w.2.2)) (xs := ws) (0, 0, 0)
      (es_of (ev_fld (ev_var rfl) h1 T.cl_Web T.na_ways (webF_ways n lw li)) (sq_of h2)) h3 (by omega) (fun x => rfl)
      fun w q H1 e1 hw hq => eu_tup (ea_cons (ev_op (ev_var rfl) ev_c (rv_ixT (st_of hq) rfl)) (ea_cons (ev_op (ev_var rfl) ev_c (rv_ixT (st_of hq) rfl)) (ea_cons (ev_op (ev_var rfl) ev_c (rv_ixT (st_of hq) rfl)) ea_nil))) (by show 3 ≤ 100000; decide)
    unfold turn
    rw [List.map_map]
    exact r
/-! ### the plain law: rings, their sums -/
def pairsL : Nat → List Nat → List (Nat × Nat)
  | _, [] => []
  | a, b :: r => (a, b) :: pairsL b r
theorem lastD_app (d : Nat) : ∀ xs ys : List Nat, (xs ++ ys).getLastD d = ys.getLastD (xs.getLastD d)
  | [], _ => rfl
  | x :: xs, ys => by
    rw [List.cons_append, List.getLastD_cons, List.getLastD_cons]
    exact lastD_app x xs ys
theorem lastD_ne {xs : List Nat} (h : xs ≠ []) (a b : Nat) : xs.getLastD a = xs.getLastD b := by
  cases xs with
  | nil => exact absurd rfl h
  | cons x r => rw [List.getLastD_cons, List.getLastD_cons]
theorem pairsL_app : ∀ (a : Nat) (xs ys : List Nat), pairsL a (xs ++ ys) = pairsL a xs ++ pairsL (xs.getLastD a) ys
  | _, [], _ => rfl
  | a, x :: xs, ys => by
    rw [List.cons_append, pairsL, pairsL, pairsL_app x xs ys, List.getLastD_cons]
    rfl
/-- each with the one ahead of it, the first one with the last one -/
def cyc (r : List Nat) : List (Nat × Nat) := pairsL (r.getLastD 0) r
theorem cyc_rot (xs ys : List Nat) : (cyc (xs ++ ys)).Perm (cyc (ys ++ xs)) := by
  by_cases hx : xs = []
  · rw [hx, List.append_nil]
    exact List.Perm.refl _
  by_cases hy : ys = []
  · rw [hy, List.append_nil]
    exact List.Perm.refl _
  unfold cyc
  rw [pairsL_app, pairsL_app, lastD_app, lastD_app]
  rw [lastD_ne hy (xs.getLastD 0) 0, lastD_ne hx (ys.getLastD 0) 0, lastD_ne hy (xs.getLastD 0) 0]
  exact List.perm_append_comm
theorem pairsL_len : ∀ (a : Nat) (xs : List Nat), (pairsL a xs).length = xs.length
  | _, [] => rfl
  | a, x :: xs => by
    show (pairsL x xs).length + 1 = xs.length + 1
    rw [pairsL_len x xs]
theorem cyc_len (r : List Nat) : (cyc r).length = r.length := pairsL_len _ _
theorem pairsL_get : ∀ (a : Nat) (xs : List Nat) (i : Nat), i < xs.length → (pairsL a xs)[i]? = some (if i = 0 then a else xs.getD (i - 1) 0, xs.getD i 0)
  | a, x :: xs, 0, _ => rfl
  | a, x :: xs, i + 1, h => by
    show (pairsL x xs)[i]? = _
    rw [pairsL_get x xs i (by simpa using h)]
    congr 1
    cases i with
    | zero => rfl
    | succ i => rfl
/-- ends: a sum of differences along it -/
theorem pairsL_sum (s : Nat → Int) : ∀ (a : Nat) (xs : List Nat), ((pairsL a xs).map fun e => s e.2 - s e.1).sum = s (xs.getLastD a) - s a
  | a, [] => by simp [pairsL]
  | a, x :: xs => by
    rw [pairsL, List.map_cons, List.sum_cons, pairsL_sum s x xs, List.getLastD_cons]
    show s x - s a + (s (xs.getLastD x) - s x) = _
    omega
theorem cyc_sum (s : Nat → Int) (r : List Nat) : ((cyc r).map fun e => s e.2 - s e.1).sum = 0 := by
  unfold cyc
  rw [pairsL_sum]
  cases r with
  | nil => simp
  | cons x r =>
    rw [List.getLastD_cons, List.getLastD_cons]
    omega
/-- against the walk -/
def backP (c : Nat) : List Nat → List (Nat × Nat)
  | [] => []
  | x :: r => (r.headD c, x) :: backP c r
theorem lastD_rev (c : Nat) (r : List Nat) : r.reverse.getLastD c = r.headD c := by
  cases r with
  | nil => rfl
  | cons x r =>
    rw [List.reverse_cons, lastD_app]
    rfl
theorem pairsL_rev (c : Nat) : ∀ seg : List Nat, pairsL c seg.reverse = (backP c seg).reverse
  | [] => rfl
  | x :: r => by
    rw [List.reverse_cons, pairsL_app, pairsL_rev c r, lastD_rev, backP, List.reverse_cons]
    rfl
theorem backP_get (c : Nat) : ∀ (seg : List Nat) (k : Nat), k < seg.length → (backP c seg)[k]? = some (seg.getD (k + 1) c, seg.getD k 0)
  | x :: r, 0, _ => by
    cases r with
    | nil => rfl
    | cons y r => rfl
  | x :: r, k + 1, h => by
    show (backP c r)[k]? = _
    rw [backP_get c r k (by simpa using h)]
    rfl
theorem backP_len (c : Nat) : ∀ seg : List Nat, (backP c seg).length = seg.length
  | [] => rfl
  | x :: r => by
    show (backP c r).length + 1 = r.length + 1
    rw [backP_len c r]
/-! greatest delays -/
theorem dels_mem {ws : List Way} {a b : Nat} {x : Int} : x ∈ dels ws a b ↔ ∃ d : Nat, (a, b, d) ∈ ws ∧ x = (d : Int) := by
  unfold dels
  rw [List.mem_map]
  constructor
  · rintro ⟨⟨y, d⟩, h, rfl⟩
    obtain ⟨h1, h2⟩ := List.mem_filter.mp h
    have h2 : y = a := of_decide_eq_true h2
    subst h2
    exact ⟨d, mem_inn.mp h1, rfl⟩
  · rintro ⟨d, h, rfl⟩
    exact ⟨(a, d), List.mem_filter.mpr ⟨mem_inn.mpr h, decide_eq_true rfl⟩, rfl⟩
def dmaxN (ws : List Way) (a b : Nat) : Nat := (mxI (dels ws a b)).toNat
theorem dels_ne {ws : List Way} {a b : Nat} : dels ws a b ≠ [] ↔ (a, b) ∈ edges ws := by
  rw [mem_edges]
  constructor
  · intro h
    obtain ⟨d, hd, _⟩ := dels_mem.mp (mxI_mem h)
    exact ⟨d, hd⟩
  · rintro ⟨d, hd⟩ z
    have := dels_mem.mpr ⟨d, hd, rfl⟩
    rw [z] at this
    cases this
theorem dmax_way {ws : List Way} {a b : Nat} (h : (a, b) ∈ edges ws) : (a, b, dmaxN ws a b) ∈ ws ∧ mxI (dels ws a b) = (dmaxN ws a b : Int) := by
  obtain ⟨d, hd, e⟩ := dels_mem.mp (mxI_mem (dels_ne.mpr h))
  have : dmaxN ws a b = d := by
    unfold dmaxN
    rw [e]
    exact Int.toNat_natCast d
  rw [this]
  exact ⟨hd, e⟩
theorem le_dmax {ws : List Way} {a b d : Nat} (h : (a, b, d) ∈ ws) : d ≤ dmaxN ws a b := by
  have h1 : (d : Int) ≤ mxI (dels ws a b) := le_mxI (dels_mem.mpr ⟨d, h, rfl⟩)
  rw [(dmax_way (mem_edges.mpr ⟨d, h⟩)).2] at h1
  omega
def ringSum (ws : List Way) (r : List Nat) : Nat := ((cyc r).map fun e => dmaxN ws e.1 e.2).sum
structure IsRing (n : Nat) (ws : List Way) (r : List Nat) : Prop where
  ne : r ≠ []
  nd : r.Nodup
  lt : ∀ x ∈ r, x < n
  way : ∀ e ∈ cyc r, e ∈ edges ws
theorem IsRing.len {n : Nat} {ws : List Way} {r : List Nat} (h : IsRing n ws r) : r.length ≤ n ∧ 0 < r.length := ⟨nodup_lt h.nd h.lt, List.length_pos_iff.mpr h.ne⟩
theorem sum_le_mul {α : Type} (f : α → Nat) (b : Nat) : ∀ l : List α, (∀ x ∈ l, f x ≤ b) → (l.map f).sum ≤ b * l.length
  | [], _ => Nat.zero_le _
  | x :: l, h => by
    rw [List.map_cons, List.sum_cons, List.length_cons, Nat.mul_succ]
    have := h x List.mem_cons_self
    have := sum_le_mul f b l fun y hy => h y (List.mem_cons_of_mem _ hy)
    omega
theorem IsRing.sum_le {n : Nat} {ws : List Way} {r : List Nat} (h : IsRing n ws r) (hw : WebOk n ws) : ringSum ws r ≤ 9999 * r.length := by
  rw [← cyc_len r]
  exact sum_le_mul _ _ _ fun e he => hw.del _ (dmax_way (h.way e he)).1
theorem sum_lin (f : Nat × Nat → Nat) (p q : Int) : ∀ l : List (Nat × Nat), (l.map fun e => q * (f e : Int) - p).sum = q * ((l.map f).sum : Nat) - p * (l.length : Int)
  | [] => by simp
  | x :: l => by
    rw [List.map_cons, List.sum_cons, sum_lin f p q l, List.map_cons, List.sum_cons, List.length_cons, Int.natCast_add, Int.mul_add, Int.natCast_add, Int.mul_add]
    omega
theorem sum_le_sum {α : Type} (f g : α → Int) : ∀ l : List α, (∀ x ∈ l, f x ≤ g x) → (l.map f).sum ≤ (l.map g).sum
  | [], _ => Int.le_refl _
  | x :: l, h => by
    rw [List.map_cons, List.sum_cons, List.map_cons, List.sum_cons]
    have := h x List.mem_cons_self
    have := sum_le_sum f g l fun y hy => h y (List.mem_cons_of_mem _ hy)
    omega
/-- a start for p over q -/
def IsStart (ws : List Way) (p q : Int) (s : List Int) : Prop := ∀ w ∈ ws, s.getD w.1 0 + q * (w.2.2 : Int) - p ≤ s.getD w.2.1 0
/-- no ring is slower than a pace with a start -/
theorem IsStart.ring {n : Nat} {ws : List Way} {p q : Int} {s : List Int} {r : List Nat} (h : IsStart ws p q s) (hr : IsRing n ws r) : q * (ringSum ws r : Int) ≤ p * (r.length : Int) := by
  have h1 : ((cyc r).map fun e => q * (dmaxN ws e.1 e.2 : Int) - p).sum ≤ ((cyc r).map fun e => s.getD e.2 0 - s.getD e.1 0).sum :=
    sum_le_sum _ _ _ fun e he => by
      have := h _ (dmax_way (hr.way e he)).1
      simp only at this
      omega
  rw [cyc_sum (fun i => s.getD i 0) r, sum_lin (fun e => dmaxN ws e.1 e.2) p q, cyc_len] at h1
  show q * (((cyc r).map fun e => dmaxN ws e.1 e.2).sum : Nat) ≤ _
  omega
/-! ### the ring that a walk closes -/
def cutRing : List Nat → List Nat → List Nat
  | acc, [] => acc
  | acc, m :: w => if m ∈ acc then acc.drop (acc.idxOf m) else cutRing (acc ++ [m]) w
def mnN : List Nat → Nat
  | [] => 0
  | [x] => x
  | x :: y :: r => min x (mnN (y :: r))
theorem mnN_mem : ∀ {xs : List Nat}, xs ≠ [] → mnN xs ∈ xs
  | [], h => absurd rfl h
  | [x], _ => List.mem_cons_self
  | x :: y :: r, _ => by
    show min x (mnN (y :: r)) ∈ _
    have ih := mnN_mem (xs := y :: r) (by simp)
    rcases Nat.le_total x (mnN (y :: r)) with h | h
    · rw [Nat.min_eq_left h]
      exact List.mem_cons_self
    · rw [Nat.min_eq_right h]
      exact List.mem_cons_of_mem _ ih
theorem mnN_le : ∀ {xs : List Nat} {x : Nat}, x ∈ xs → mnN xs ≤ x
  | [], _, h => by cases h
  | [x], y, h => by
    rw [List.mem_singleton.mp h]
    exact Nat.le_refl _
  | x :: y :: r, z, h => by
    show min x (mnN (y :: r)) ≤ z
    rcases List.mem_cons.mp h with h | h
    · rw [h]
      exact Nat.min_le_left _ _
    · exact Nat.le_trans (Nat.min_le_right _ _) (mnN_le h)
def fromLeast (r : List Nat) : List Nat := r.drop (r.idxOf (mnN r)) ++ r.take (r.idxOf (mnN r))
def ringOf (w : List Nat) : List Nat := fromLeast (cutRing [] w).reverse
theorem cutRing_ok : ∀ (w acc : List Nat), acc.Nodup → ¬ (acc ++ w).Nodup → ∃ i j, i < j ∧ j < (acc ++ w).length ∧ (acc ++ w).getD i 0 = (acc ++ w).getD j 0 ∧ ((acc ++ w).take j).Nodup ∧ cutRing acc w = ((acc ++ w).take j).drop i
  | [], acc, h, k => absurd (by rw [List.append_nil]; exact h) k
  | m :: w, acc, h, k => by
    unfold cutRing
    by_cases hm : m ∈ acc
    · rw [if_pos hm]
      have hi : acc.idxOf m < acc.length := List.idxOf_lt_length_of_mem hm
      refine ⟨acc.idxOf m, acc.length, hi, by simp, ?_, ?_, ?_⟩
      · rw [List.getD_eq_getElem?_getD, List.getD_eq_getElem?_getD, List.getElem?_append_left hi, List.getElem?_append_right (Nat.le_refl _), Nat.sub_self, List.getElem?_eq_getElem hi]
        show acc[acc.idxOf m] = m
        exact List.getElem_idxOf hi
      · rw [List.take_left]
        exact h
      · rw [List.take_left]
    · rw [if_neg hm]
      have e : acc ++ m :: w = (acc ++ [m]) ++ w := by simp
      rw [e] at k ⊢
      refine cutRing_ok w (acc ++ [m]) (List.nodup_append.mpr ⟨h, by simp, fun a ha b hb => ?_⟩) k
      rintro rfl
      exact hm (by rw [List.mem_singleton.mp hb] at ha; exact ha)
theorem fromLeast_perm (r : List Nat) : (fromLeast r).Perm r := by
  unfold fromLeast
  exact List.perm_append_comm.trans (by rw [List.take_append_drop])
theorem fromLeast_cyc (r : List Nat) : (cyc (fromLeast r)).Perm (cyc r) := by
  unfold fromLeast
  have := cyc_rot (r.drop (r.idxOf (mnN r))) (r.take (r.idxOf (mnN r)))
  rw [List.take_append_drop] at this
  exact this
theorem fromLeast_head {r : List Nat} (h : r ≠ []) : (fromLeast r).getD 0 0 = mnN r := by
  have hi : r.idxOf (mnN r) < r.length := List.idxOf_lt_length_of_mem (mnN_mem h)
  unfold fromLeast
  rw [List.getD_eq_getElem?_getD, List.getElem?_append_left (by rw [List.length_drop]; omega), List.getElem?_drop, Nat.add_zero, List.getElem?_eq_getElem hi]
  exact List.getElem_idxOf hi
/-- what closes: the ring of the ways that the walk tells from its end -/
theorem ringOf_ok {w : List Nat} {n : Nat} (hl : n < w.length) (hlt : ∀ x ∈ w, x < n) : ∃ i j, i < j ∧ j < w.length ∧ w.getD i 0 = w.getD j 0 ∧ (ringOf w).Nodup ∧ ringOf w ≠ [] ∧ (∀ x ∈ ringOf w, x < n) ∧
    (∀ x ∈ ringOf w, (ringOf w).getD 0 0 ≤ x) ∧ (ringOf w).length = j - i ∧ (cyc (ringOf w)).Perm ((List.range (j - i)).map fun k => (w.getD (i + k + 1) 0, w.getD (i + k) 0)) := by
  obtain ⟨i, j, hij, hj, he, hnd, hc⟩ := cutRing_ok w [] List.nodup_nil (fun h => by have := nodup_lt (l := w) h hlt; omega)
  rw [List.nil_append] at hj he hnd hc
  have hlen : (cutRing [] w).length = j - i := by rw [hc, List.length_drop, List.length_take, Nat.min_eq_left (by omega)]
  have hsub : ∀ x ∈ cutRing [] w, x ∈ w := fun x hx => by
    rw [hc] at hx
    exact List.mem_of_mem_take (List.mem_of_mem_drop hx)
  have hnd2 : (cutRing [] w).Nodup := by
    rw [hc]
    exact hnd.sublist (List.drop_sublist _ _)
  have hne : (cutRing [] w).reverse ≠ [] := fun z => by
    have := congrArg List.length z
    rw [List.length_reverse, hlen] at this
    simp at this
    omega
  have hp := fromLeast_perm (cutRing [] w).reverse
  have hget : ∀ k, k < j - i → (cutRing [] w).getD k 0 = w.getD (i + k) 0 := fun k hk => by
    rw [hc, List.getD_eq_getElem?_getD, List.getD_eq_getElem?_getD, List.getElem?_drop, List.getElem?_take_of_lt (by omega)]
  refine ⟨i, j, hij, hj, he, (hp.nodup_iff).mpr ((List.reverse_perm _).nodup_iff.mpr hnd2), fun z => ?_, fun x hx => ?_, fun x hx => ?_, ?_, ?_⟩
  · have := hp.length_eq
    unfold ringOf at z
    rw [z] at this
    exact hne (List.length_eq_zero_iff.mp this.symm)
  · have hx2 := hp.mem_iff.mp hx
    exact hlt x (hsub x (List.mem_reverse.mp hx2))
  · have hx2 := hp.mem_iff.mp hx
    show (fromLeast _).getD 0 0 ≤ x
    rw [fromLeast_head hne]
    exact mnN_le hx2
  · show (fromLeast _).length = _
    rw [hp.length_eq, List.length_reverse, hlen]
  · refine (fromLeast_cyc _).trans ?_
    have e1 : cyc (cutRing [] w).reverse = (backP ((cutRing [] w).headD 0) (cutRing [] w)).reverse := by
      unfold cyc
      rw [lastD_rev, pairsL_rev]
    rw [e1]
    refine (List.reverse_perm _).trans ?_
    have e2 : backP ((cutRing [] w).headD 0) (cutRing [] w) = (List.range (j - i)).map fun k => (w.getD (i + k + 1) 0, w.getD (i + k) 0) := by
      apply List.ext_getElem?
      intro k
      by_cases hk : k < j - i
      · rw [backP_get _ _ k (by rw [hlen]; exact hk), List.getElem?_map, List.getElem?_range hk, hget k hk]
        show some _ = some _
        congr 2
        by_cases hk1 : k + 1 < j - i
        · rw [List.getD_eq_getElem?_getD, List.getElem?_eq_getElem (by rw [hlen]; exact hk1)]
          have := hget (k + 1) hk1
          rw [List.getD_eq_getElem?_getD, List.getElem?_eq_getElem (by rw [hlen]; exact hk1)] at this
          exact this
        · rw [List.getD_eq_getElem?_getD, List.getElem?_eq_none (by rw [hlen]; omega)]
          show (cutRing [] w).headD 0 = _
          have h0 := hget 0 (by omega)
          have e3 : i + k + 1 = j := by omega
          rw [e3, ← he, ← Nat.add_zero i, ← h0]
          cases cutRing [] w with
          | nil => rfl
          | cons x r => rfl
      · rw [List.getElem?_eq_none (by rw [backP_len, hlen]; omega), List.getElem?_eq_none (by simp; omega)]
    rw [e2]
/-! ### the plain law: what walks may gain, by rounds -/
def gsum (p q : Int) (g : List Int) (pr : Nat × Nat) : Int := g.getD pr.1 0 + q * (pr.2 : Int) - p
def gnx (ws : List Way) (p q : Int) (g : List Int) (m : Nat) : Int := mxI ((inn ws m).map (gsum p q g))
def gval (ws : List Way) (p q : Int) (g : List Int) (m : Nat) : Int := if gnx ws p q g m > g.getD m 0 then gnx ws p q g m else g.getD m 0
def gG (n : Nat) (ws : List Way) (p q : Int) : Nat → List Int
  | 0 => (List.range n).map fun _ => 0
  | t + 1 => (List.range n).map (gval ws p q (gG n ws p q t))
theorem gG_len (n : Nat) (ws : List Way) (p q : Int) : ∀ t, (gG n ws p q t).length = n
  | 0 => by simp [gG]
  | t + 1 => by simp [gG]
section
variable {n : Nat} {ws : List Way} {p q : Int}
theorem gG_at {t m : Nat} (hm : m < n) : (gG n ws p q (t + 1)).getD m 0 = gval ws p q (gG n ws p q t) m := by
  show ((List.range n).map _).getD m 0 = _
  rw [List.getD_eq_getElem?_getD, List.getElem?_map, List.getElem?_range hm]
  rfl
theorem gG_mono {t m : Nat} (hm : m < n) : (gG n ws p q t).getD m 0 ≤ (gG n ws p q (t + 1)).getD m 0 := by
  rw [gG_at hm]
  unfold gval
  split <;> omega
theorem gG_mono2 {m : Nat} (hm : m < n) : ∀ {t k : Nat}, (gG n ws p q t).getD m 0 ≤ (gG n ws p q (t + k)).getD m 0
  | _, 0 => Int.le_refl _
  | t, k + 1 => Int.le_trans (gG_mono2 hm (k := k)) (gG_mono hm)
theorem gG_way {t a m d : Nat} (hm : m < n) (h : (a, m, d) ∈ ws) : (gG n ws p q t).getD a 0 + q * (d : Int) - p ≤ (gG n ws p q (t + 1)).getD m 0 := by
  rw [gG_at hm]
  have h1 : (gG n ws p q t).getD a 0 + q * (d : Int) - p ≤ gnx ws p q (gG n ws p q t) m := le_mxI (List.mem_map.mpr ⟨(a, d), mem_inn.mpr h, rfl⟩)
  unfold gval
  split <;> omega
def isGoal (p q : Int) (g : List Int) (goal : Int) (pr : Nat × Nat) : Bool := decide (gsum p q g pr = goal)
def stepBack (ws : List Way) (p q : Int) (g : List Int) (m : Nat) (goal : Int) : Nat :=
  match (inn ws m).find? (isGoal p q g goal) with
  | some pr => pr.1
  | none => m
/-- where it grew, a way ahead of it grew a turn ahead -/
theorem stepBack_ok {t m : Nat} (hm : m < n) (hne : inn ws m ≠ []) (h : (gG n ws p q t).getD m 0 < (gG n ws p q (t + 1)).getD m 0) :
    ∃ d, (stepBack ws p q (gG n ws p q t) m ((gG n ws p q (t + 1)).getD m 0), m, d) ∈ ws ∧ (gG n ws p q t).getD (stepBack ws p q (gG n ws p q t) m ((gG n ws p q (t + 1)).getD m 0)) 0 + q * (d : Int) - p = (gG n ws p q (t + 1)).getD m 0 := by
  have h2 : gnx ws p q (gG n ws p q t) m = (gG n ws p q (t + 1)).getD m 0 := by
    rw [gG_at hm] at h ⊢
    unfold gval at h ⊢
    split at h
    · rename_i h3
      rw [if_pos h3]
    · omega
  have hmem : gnx ws p q (gG n ws p q t) m ∈ (inn ws m).map (gsum p q (gG n ws p q t)) := mxI_mem (by simpa using hne)
  rw [h2] at hmem
  obtain ⟨pr0, hpr0, he0⟩ := List.mem_map.mp hmem
  unfold stepBack
  cases hf : (inn ws m).find? (isGoal p q (gG n ws p q t) ((gG n ws p q (t + 1)).getD m 0)) with
  | none =>
    have := List.find?_eq_none.mp hf pr0 hpr0
    unfold isGoal at this
    rw [decide_eq_true_iff] at this
    exact absurd he0 this
  | some pr =>
    have h3 := List.find?_some hf
    have h4 := List.mem_of_find?_eq_some hf
    have h3 : gsum p q (gG n ws p q t) pr = (gG n ws p q (t + 1)).getD m 0 := of_decide_eq_true h3
    obtain ⟨a, d⟩ := pr
    exact ⟨d, mem_inn.mp h4, h3⟩
/-- the walk back from m0 -/
def nd (n : Nat) (ws : List Way) (p q : Int) (m0 : Nat) : Nat → Nat
  | 0 => m0
  | i + 1 => stepBack ws p q (gG n ws p q (n - i - 1)) (nd n ws p q m0 i) ((gG n ws p q (n - i)).getD (nd n ws p q m0 i) 0)
theorem stepBack_lt (hw : WebOk n ws) {g : List Int} {m : Nat} {goal : Int} (hm : m < n) : stepBack ws p q g m goal < n := by
  unfold stepBack
  cases hf : (inn ws m).find? (isGoal p q g goal) with
  | none => exact hm
  | some pr => exact (inn_lt hw (List.mem_of_find?_eq_some hf)).1
theorem nd_lt (hw : WebOk n ws) {m0 : Nat} (h0 : m0 < n) : ∀ i, nd n ws p q m0 i < n
  | 0 => h0
  | i + 1 => stepBack_lt hw (nd_lt hw h0 i)
theorem nd_grown (hw : WebOk n ws) {m0 : Nat} (h0 : m0 < n) (hg : (gG n ws p q (n - 1)).getD m0 0 < (gG n ws p q n).getD m0 0) : ∀ i, i < n → (gG n ws p q (n - i - 1)).getD (nd n ws p q m0 i) 0 < (gG n ws p q (n - i)).getD (nd n ws p q m0 i) 0
  | 0, _ => hg
  | i + 1, hi => by
    have ih := nd_grown hw h0 hg i (by omega)
    have hlt := nd_lt (p := p) (q := q) hw h0 i
    have e : n - i = (n - i - 1) + 1 := by omega
    have hb := stepBack_ok (n := n) (ws := ws) (p := p) (q := q) (t := n - i - 1) hlt (hw.inn_ne hlt) (by rw [← e]; exact ih)
    rw [← e] at hb
    obtain ⟨d, hd, hs⟩ := hb
    show (gG n ws p q (n - (i + 1) - 1)).getD (stepBack ws p q (gG n ws p q (n - i - 1)) (nd n ws p q m0 i) ((gG n ws p q (n - i)).getD (nd n ws p q m0 i) 0)) 0 < (gG n ws p q (n - (i + 1))).getD (stepBack ws p q (gG n ws p q (n - i - 1)) (nd n ws p q m0 i) ((gG n ws p q (n - i)).getD (nd n ws p q m0 i) 0)) 0
    generalize stepBack ws p q (gG n ws p q (n - i - 1)) (nd n ws p q m0 i) ((gG n ws p q (n - i)).getD (nd n ws p q m0 i) 0) = a at hd hs
    have h2 := gG_way (n := n) (p := p) (q := q) (t := n - i - 1 - 1) hlt hd
    rw [show n - i - 1 - 1 + 1 = n - i - 1 by omega] at h2
    rw [show n - (i + 1) - 1 = n - i - 1 - 1 by omega, show n - (i + 1) = n - i - 1 by omega]
    omega
theorem nd_way (hw : WebOk n ws) {m0 : Nat} (h0 : m0 < n) (hg : (gG n ws p q (n - 1)).getD m0 0 < (gG n ws p q n).getD m0 0) {i : Nat} (hi : i < n) :
    ∃ d, (nd n ws p q m0 (i + 1), nd n ws p q m0 i, d) ∈ ws ∧ (gG n ws p q (n - (i + 1))).getD (nd n ws p q m0 (i + 1)) 0 + q * (d : Int) - p = (gG n ws p q (n - i)).getD (nd n ws p q m0 i) 0 := by
  have ih := nd_grown hw h0 hg i hi
  have hlt := nd_lt (p := p) (q := q) hw h0 i
  have e : n - i = (n - i - 1) + 1 := by omega
  have hb := stepBack_ok (n := n) (ws := ws) (p := p) (q := q) (t := n - i - 1) hlt (hw.inn_ne hlt) (by rw [← e]; exact ih)
  rw [← e] at hb
  exact hb
theorem nd_sum (hw : WebOk n ws) {m0 : Nat} (hq : 0 ≤ q) (h0 : m0 < n) (hg : (gG n ws p q (n - 1)).getD m0 0 < (gG n ws p q n).getD m0 0) (i : Nat) : ∀ k, i + k ≤ n →
    (gG n ws p q (n - i)).getD (nd n ws p q m0 i) 0 - (gG n ws p q (n - (i + k))).getD (nd n ws p q m0 (i + k)) 0 ≤ (((List.range k).map fun k => (nd n ws p q m0 (i + k + 1), nd n ws p q m0 (i + k))).map fun e => q * (dmaxN ws e.1 e.2 : Int) - p).sum
  | 0, _ => by
    simp
  | k + 1, hk => by
    have ih := nd_sum hw hq h0 hg i k (by omega)
    obtain ⟨d, hd, he⟩ := nd_way hw h0 hg (i := i + k) (by omega)
    rw [List.range_succ, List.map_append, List.map_append, List.sum_append]
    have h1 := le_dmax hd
    have h2 : q * (d : Int) ≤ q * (dmaxN ws (nd n ws p q m0 (i + k + 1)) (nd n ws p q m0 (i + k)) : Int) := Int.mul_le_mul_of_nonneg_left (by omega) hq
    have e3 : (List.map (fun e => q * (dmaxN ws e.1 e.2 : Int) - p) (List.map (fun k => (nd n ws p q m0 (i + k + 1), nd n ws p q m0 (i + k))) [k])).sum = q * (dmaxN ws (nd n ws p q m0 (i + k + 1)) (nd n ws p q m0 (i + k)) : Int) - p := by
      show _ + (0 : Int) = _
      exact Int.add_zero _
    rw [e3]
    rw [show i + (k + 1) = i + k + 1 by omega]
    omega
def backWalk (n : Nat) (ws : List Way) (p q : Int) (m0 : Nat) : List Nat := (List.range (n + 1)).map (nd n ws p q m0)
theorem map_range_getD {α : Type} (f : Nat → α) (k i : Nat) (d : α) (h : i < k) : ((List.range k).map f).getD i d = f i := by
  rw [List.getD_eq_getElem?_getD, List.getElem?_map, List.getElem?_range h]
  rfl
theorem sum_perm_int {l l' : List Int} (h : l.Perm l') : l.sum = l'.sum := by
  induction h with
  | nil => rfl
  | cons x _ ih => rw [List.sum_cons, List.sum_cons, ih]
  | swap x y l => rw [List.sum_cons, List.sum_cons, List.sum_cons, List.sum_cons]; omega
  | trans _ _ a b => exact a.trans b
/-- a slower ring -/
theorem slower_ring (hw : WebOk n ws) {m0 : Nat} (hq : 0 ≤ q) (h0 : m0 < n) (hg : (gG n ws p q (n - 1)).getD m0 0 < (gG n ws p q n).getD m0 0) :
    IsRing n ws (ringOf (backWalk n ws p q m0)) ∧ (∀ x ∈ ringOf (backWalk n ws p q m0), (ringOf (backWalk n ws p q m0)).getD 0 0 ≤ x) ∧ p * ((ringOf (backWalk n ws p q m0)).length : Int) < q * (ringSum ws (ringOf (backWalk n ws p q m0)) : Int) := by
  have hlen : (backWalk n ws p q m0).length = n + 1 := by simp [backWalk]
  obtain ⟨i, j, hij, hj, he, r1, r2, r3, r4, r5, r6⟩ := ringOf_ok (w := backWalk n ws p q m0) (n := n) (by omega) (fun x hx => by
    obtain ⟨i, _, rfl⟩ := List.mem_map.mp hx
    exact nd_lt hw h0 i)
  rw [hlen] at hj
  have hget : ∀ k, k ≤ n → (backWalk n ws p q m0).getD k 0 = nd n ws p q m0 k := fun k hk => map_range_getD _ _ _ _ (by omega)
  have e6 : ((List.range (j - i)).map fun k => ((backWalk n ws p q m0).getD (i + k + 1) 0, (backWalk n ws p q m0).getD (i + k) 0)) = (List.range (j - i)).map fun k => (nd n ws p q m0 (i + k + 1), nd n ws p q m0 (i + k)) := by
    apply List.map_congr_left
    intro k hk
    have := List.mem_range.mp hk
    rw [hget _ (by omega), hget _ (by omega)]
  rw [e6] at r6
  rw [hget i (by omega), hget j (by omega)] at he
  have hring : IsRing n ws (ringOf (backWalk n ws p q m0)) := ⟨r2, r1, r3, fun e hmem => by
    obtain ⟨k, hk, rfl⟩ := List.mem_map.mp (r6.mem_iff.mp hmem)
    have := List.mem_range.mp hk
    obtain ⟨d, hd, _⟩ := nd_way hw h0 hg (i := i + k) (by omega)
    exact mem_edges.mpr ⟨d, hd⟩⟩
  refine ⟨hring, r4, ?_⟩
  have hs := nd_sum hw hq h0 hg i (j - i) (by omega)
  have hp := sum_perm_int (r6.map fun e => q * (dmaxN ws e.1 e.2 : Int) - p)
  rw [← hp, sum_lin (fun e => dmaxN ws e.1 e.2) p q, cyc_len] at hs
  have hgr := nd_grown hw h0 hg i (by omega)
  have hmono := gG_mono2 (ws := ws) (p := p) (q := q) (nd_lt (p := p) (q := q) hw h0 i) (t := n - j) (k := n - i - 1 - (n - j))
  rw [show n - j + (n - i - 1 - (n - j)) = n - i - 1 by omega] at hmono
  rw [show i + (j - i) = j by omega, ← he] at hs
  show _ < q * (((cyc _).map fun e => dmaxN ws e.1 e.2).sum : Nat)
  omega
/-- where nothing grew: a start -/
theorem slower_start (hn : 1 ≤ n) (hw : ∀ w ∈ ws, w.1 < n ∧ w.2.1 < n) (h : ∀ m, m < n → ¬ (gG n ws p q (n - 1)).getD m 0 < (gG n ws p q n).getD m 0) : IsStart ws p q (gG n ws p q n) := by
  intro w hmem
  obtain ⟨a, b, d⟩ := w
  have hb := hw _ hmem
  simp only at hb ⊢
  have h1 := gG_way (n := n) (p := p) (q := q) (t := n - 1) hb.2 hmem
  rw [show n - 1 + 1 = n by omega] at h1
  have h2 := h a hb.1
  omega
end
/-! ### lowest -/
def sp_lowest : Sp := fun vs H Q _ => ∃ a b : Nat, vs = [.int a, .int b] ∧ 0 < b ∧ b < 2 ^ 600 ∧ RetU [.int ((a / Nat.gcd a b : Nat) : Int), .int ((b / Nat.gcd a b : Nat) : Int)] H Q
abbrev s_lowest : Stmt := (top 9)
abbrev N_lowest : List Str := ["number", "divisor", "one", "other", "rest"]
theorem sc_lowest : FnScope N_lowest ["number", "divisor"] (defScope s_lowest) := ⟨rfl, rfl, rfl, by decide +kernel, rfl, by decide +kernel, by decide +kernel⟩

theorem ok_lowest (T : Txt K mg) : FnOk P w K mg base CX0 1 T.a_lowest T.d_lowest ["number", "divisor"] sp_lowest := by
  refine okN T.F_lowest sc_lowest (fun vs H Q E h => ?_) (fun cdv A outer s H vs Q E HR h => ?_)
  · obtain ⟨a, b, rfl, _⟩ := h
    rfl
  · obtain ⟨a, b, rfl, hb, hB, q⟩ := h
    refine ⟨_, (pss_cons (ps_set (i := 2) sc_lowest.nd rfl (by first | exact Or.inl rfl | exact Or.inr rfl) (pv 0))
  (pss_cons (ps_set (i := 3) sc_lowest.nd rfl (by first | exact Or.inl rfl | exact Or.inr rfl) (pv 1))
  (pss_cons (ps_while PassesOwn.never (pt_cmpR op_gt (pv 3) pe_int (nomark _))
  (pss_cons (ps_set (i := 4) sc_lowest.nd rfl (by first | exact Or.inl rfl | exact Or.inr rfl) (pe_op op_mod (pv 2) (pv 3)))
  (pss_cons (ps_set (i := 2) sc_lowest.nd rfl (by first | exact Or.inl rfl | exact Or.inr rfl) (pv 3))
  (pss_one (ps_set (i := 3) sc_lowest.nd rfl (by first | exact Or.inl rfl | exact Or.inr rfl) (pv 4))))))
  (pss_one (ps_ret (pe_tup (pa_cons (pe_op op_fdivW (pv 0) (pv 2)) (pa_cons (pe_op op_fdivW (pv 1) (pv 2)) pa_nil)))))))), ?_⟩
    refine q_asg (ev_var rfl) fun H1 e1 => ?_
    refine q_asg (ev_var rfl) fun H2 e2 => ?_
    refine q_while (fun m σ H' => ∃ (x y : Nat) (r : Option V), σ = [some (.int a), some (.int b), some (.int x), some (.int y), r] ∧ Nat.gcd x y = Nat.gcd a b ∧ m = y ∧ Ex H H') b ⟨a, b, none, rfl, rfl, rfl, e1.trans e2⟩ ?_
    rintro m σ H' ⟨x, y, r, rfl, hg, rfl, e⟩
    refine ⟨decide ((0 : Int) < (m : Int)), et_test (ev_op (ev_var rfl) ev_c rv_I0), fun hb2 H3 e3 => ?_, fun hb2 H3 e3 => ?_⟩
    · have hm : 0 < m := by simpa using of_decide_eq_true hb2
      refine ⟨fun σ H' => ∃ (r : Option V), σ = [some (.int a), some (.int b), some (.int m), some (.int ((x % m : Nat) : Int)), r] ∧ Ex H H', ?_, ?_⟩
      · rintro σ2 H4 ⟨r, rfl, e4⟩
        exact ⟨x % m, Nat.mod_lt _ hm, m, x % m, r, rfl, by rw [← hg, Nat.gcd_comm x m, Nat.gcd_rec m x, Nat.gcd_comm], rfl, e4⟩
      · refine q_asg (ev_op (ev_var rfl) (ev_var rfl) (rv_I (by show (0 : Int) < (m : Int); omega))) fun H4 e4 => ?_
        refine q_asg (ev_var rfl) fun H5 e5 => ?_
        refine s_asg (ev_var rfl) fun H6 e6 => ?_
        exact ⟨_, rfl, ((((e.trans e3).trans e4).trans e5).trans e6)⟩
    · have hm : m = 0 := by
        have := of_decide_eq_false hb2
        omega
      subst hm
      have hx : x = Nat.gcd a b := by rw [← hg, Nat.gcd_zero_right]
      have hg0 : 0 < Nat.gcd a b := Nat.gcd_pos_of_pos_right _ hb
      have hgB : Nat.gcd a b < 2 ^ 600 := Nat.lt_of_le_of_lt (Nat.le_of_dvd hb (Nat.gcd_dvd_right a b)) hB
      subst hx
      have hc : CDivW (a : Int) ((Nat.gcd a b : Nat) : Int) := wide_div (by omega) (by simpa using hgB) (by decide) (by decide)
      have hc2 : CDivW (b : Int) ((Nat.gcd a b : Nat) : Int) := wide_div (by omega) (by simpa using hgB) (by decide) (by decide)
      refine s_retU (xs := [.int ((a / Nat.gcd a b : Nat) : Int), .int ((b / Nat.gcd a b : Nat) : Int)]) (eu_tup (ea_cons (ev_is (ev_op (ev_var rfl) (ev_var rfl) (rv_I hc)) (by simp)) (ea_cons (ev_is (ev_op (ev_var rfl) (ev_var rfl) (rv_I hc2)) (by simp)) ea_nil)) (by simp)) ?_
      exact fun p H4 hp e4 h4 => q.go (e.trans e3) hp e4 h4
/-! ### rings.py -/
theorem natV_int (r : List Nat) : natV r = (r.map fun (m : Nat) => (m : Int)).map V.int := by
  unfold natV
  rw [List.map_map]
  rfl
theorem nodup_int {r : List Nat} (h : r.Nodup) : (r.map fun (m : Nat) => (m : Int)).Nodup := by
  rw [List.Nodup, List.pairwise_map]
  exact h.imp fun hne z => hne (by omega)
section
variable {K : PySem.W.Frag} {σ : L2.St} {H : Hp} {ta tb : TE}
theorem rv_isN {x : V} : RV rIsN x .non H (.bl (decide (x = .non))) := fun H1 _ _ q => ⟨rfl, q H1 (Ex.refl H1)⟩
theorem rv_isN_int {i : Int} : RV rIsN (.int i) .non H (.bl false) := fun H1 _ _ q => ⟨rfl, q H1 (Ex.refl H1)⟩
theorem ev_min {ns : List Int} {v : Int} (h : EvS K ta σ H (ns.map V.int)) (h1 : v ∈ ns) (h2 : ∀ y ∈ ns, v ≤ y) : Ev (tCB (rMin K) (tCons ta tNil)) σ H (.int v) := fun H1 e Q q =>
  h H1 e _ fun a H2 e2 hq => ⟨a, ns, rfl, hq, List.length_pos_iff.mpr (by intro z; rw [z] at h1; cases h1), fun m a1 a2 => by
    have : m = v := Int.le_antisymm (a2 _ h1) (h2 _ a1)
    rw [this]
    exact q H2 e2⟩
theorem eqV_nat (a b : Nat) : eqV (.int (a : Int)) (.int (b : Int)) = decide (a = b) := by
  show ((a : Int) == (b : Int)) = _
  by_cases h : a = b
  · subst h
    simp
  · rw [decide_eq_false h]
    apply beq_false_of_ne
    omega
theorem idxOf_le : ∀ (r : List Nat) (k m : Nat), r[k]? = some m → r.idxOf m ≤ k
  | [], k, m, h => by simp at h
  | x :: r, 0, m, h => by
    obtain rfl : x = m := by simpa using h
    rw [List.idxOf_cons]
    simp
  | x :: r, k + 1, m, h => by
    have := idxOf_le r k m (by simpa using h)
    rw [List.idxOf_cons]
    cases x == m
    · show r.idxOf m + 1 ≤ k + 1
      omega
    · exact Nat.zero_le _
theorem ev_index {p : Addr} {r : List Nat} {m : Nat} (ha : Ev ta σ H (.ref p)) (hp : H p = some (.lst (natV r))) (hb : EvA (tCons tb tNil) σ H [.int (m : Int)]) (h : m ∈ r) : Ev (tBM K "list" (rIndex K) ta (tCons tb tNil)) σ H (.int ((r.idxOf m : Nat) : Int)) := fun H1 e Q q =>
  ha H1 e _ fun H2 e2 => ⟨Or.inl ⟨rfl, _, sq_of (e2 _ _ (e _ _ hp))⟩, hb H2 (e.trans e2) _ fun H3 e3 => by
    have hi : r.idxOf m < r.length := List.idxOf_lt_length_of_mem h
    refine ⟨p, natV r, .int (m : Int), r.idxOf m, .int (m : Int), rfl, rfl, sq_of (e3 _ _ (e2 _ _ (e _ _ hp))), rfl, flat_natV r, natV_at (by rw [List.getElem?_eq_getElem hi]; exact congrArg some (List.getElem_idxOf hi)), by rw [eqV_nat]; simp, fun k z hk hz => ?_, q H3 (e2.trans e3)⟩
    have hk2 : k < r.length := by omega
    rw [natV_at (List.getElem?_eq_getElem hk2)] at hz
    obtain rfl := Option.some.inj hz
    rw [eqV_nat]
    apply decide_eq_false
    intro z
    have h1 : r.idxOf m ≤ k := idxOf_le r k m (by rw [List.getElem?_eq_getElem hk2, z])
    omega⟩
theorem cutV_drop (xs : List V) (k : Nat) : cutV xs (some (k : Int)) none = xs.drop k := by
  unfold cutV
  rw [HT.sIx_none, HT.sIx_nat]
  by_cases h : k ≤ xs.length
  · rw [Nat.min_eq_left h, List.take_of_length_le]
    rw [List.length_drop]
    omega
  · rw [Nat.min_eq_right (by omega), List.drop_eq_nil_of_le (Nat.le_refl _), List.drop_eq_nil_of_le (by omega), List.take_nil]
theorem cutV_take (xs : List V) (k : Nat) : cutV xs none (some (k : Int)) = xs.take k := by
  unfold cutV
  rw [HT.sIx_none, HT.sIx_nat, List.drop_zero, Nat.sub_zero]
  by_cases h : k ≤ xs.length
  · rw [Nat.min_eq_left h]
  · rw [Nat.min_eq_right (by omega), List.take_of_length_le (Nat.le_refl _), List.take_of_length_le (by omega)]
end
def sp_mean (C : Addr) : Sp := fun vs H Q _ => ∃ (p a : Addr) (n : Nat) (ws : List Way) (r : List Nat), vs = [.ref p, .ref a] ∧ WebAt C H p n ws ∧ WebOk n ws ∧ H a = some (.lst (natV r)) ∧ IsRing n ws r ∧ RetU [.int ((ringSum ws r / Nat.gcd (ringSum ws r) r.length : Nat) : Int), .int ((r.length / Nat.gcd (ringSum ws r) r.length : Nat) : Int)] H Q
abbrev s_mean : Stmt := (top 10)
abbrev N_mean : List Str := ["web", "ring", "meeting", "total", "place", "delay"]
theorem sc_mean : FnScope N_mean ["web", "ring"] (defScope s_mean) := ⟨rfl, rfl, rfl, by decide +kernel, rfl, by decide +kernel, by decide +kernel⟩

theorem ok_mean (T : Txt K mg) : FnOk P w K mg base CX0 3 T.a_mean T.d_mean ["web", "ring"] (sp_mean T.a_Web) := by
  refine okN T.F_mean sc_mean (fun vs H Q E h => ?_) (fun cdv A outer s H vs Q E HR h => ?_)
  · obtain ⟨p, a, n, ws, r, rfl, _⟩ := h
    rfl
  · obtain ⟨p, a, n, ws, r, rfl, hW, hw, ha, hr, q⟩ := h
    have hW0 := hW
    obtain ⟨dx, lw, li, vw, vi, h1, _⟩ := hW0
    have hn12 := hw.n12
    obtain ⟨hl1, hl0⟩ := hr.len
    refine ⟨_, (pss_cons (ps_for PassesOwn.never rfl (pi_list (pv 1)) (pg_name (i := 2) sc_mean.nd rfl (by first | exact Or.inl rfl | exact Or.inr rfl))
  (pss_one (ps_expr (pe_meth (pv 0) T.cl_Web T.m_Web_need_meeting (ok_Web_need_meeting T) (HR.mono (by decide)) T.b_Web_need_meeting .nil pass0 (pa_cons (pv 2) pa_nil)))))
  (pss_cons (ps_if (PW.pt (pw_or (pt_cmpR (op_eqD HR.units) (pv 1) (pe_lst pa_nil) (nomark _)) (pw_or1 (pt_cmpR op_lt (pe_lenSet rfl (by rfl) T.n_len (by rfl) T.n_set (pv 1)) (pe_callB call_len_seq (by rfl) T.n_len boot_len (pa_cons (pv 1) pa_nil)) (nomark _)))))
  (pss_one ps_never) pss_nil)
  (pss_cons (ps_set (i := 3) sc_mean.nd rfl (by first | exact Or.inl rfl | exact Or.inr rfl) pe_int)
  (pss_cons (ps_for PassesOwn.never rfl (pi_range1 (by rfl) T.n_range (pa_cons (pe_callB call_len_seq (by rfl) T.n_len boot_len (pa_cons (pv 1) pa_nil)) pa_nil)) (pg_name (i := 4) sc_mean.nd rfl (by first | exact Or.inl rfl | exact Or.inr rfl))
  (pss_cons (ps_set (i := 5) sc_mean.nd rfl (by first | exact Or.inl rfl | exact Or.inr rfl) (pe_meth (pv 0) T.cl_Web T.m_Web_delay (ok_Web_delay T) (HR.mono (by decide)) T.b_Web_delay .nil pass0 (pa_cons (pe_ix ix_list (pv 1) (pe_op op_sub (pv 4) pe_int) (fun _ _ => rfl)) (pa_cons (pe_ix ix_list (pv 1) (pv 4) (fun _ _ => rfl)) pa_nil))))
  (pss_cons (ps_if (pt_cmpR op_isN1 (pv 5) pe_non (nomark _))
  (pss_one ps_never) pss_nil)
  (pss_one (ps_set (i := 3) sc_mean.nd rfl (by first | exact Or.inl rfl | exact Or.inr rfl) (pe_op op_add (pv 3) (pv 5)))))))
  (pss_one (ps_ret (pe_call (ok_lowest T) (HR.mono (by decide)) (by rfl) T.g_lowest T.F_lowest.kp T.b_lowest .nil pass0 (pa_cons (pv 3) (pa_cons (pe_callB call_len_seq (by rfl) T.n_len boot_len (pa_cons (pv 1) pa_nil)) pa_nil))))))))), ?_⟩
    refine q_forL (a := a) (xs := natV r) (ev_var rfl) (sq_of ha) (fun i σ' H' => ∃ r2 : Option V, σ' = [some (.ref p), some (.ref a), r2, none, none, none] ∧ Ex H H') (fun H1 e1 => ⟨none, rfl, e1⟩) (fun i σ' H' _ ⟨_, _, e⟩ => sq_of (e _ _ ha)) ?_ ?_
    · rintro i x σ' H' hx ⟨r2, rfl, e⟩
      obtain ⟨m, hm, rfl⟩ : ∃ m, r[i]? = some m ∧ x = .int (m : Int) := by
        unfold natV at hx
        rw [List.getElem?_map] at hx
        obtain ⟨m, hm, rfl⟩ := Option.map_eq_some_iff.mp hx
        exact ⟨m, hm, rfl⟩
      exact s_drop (ev_need (ev_var rfl) (e _ _ h1) (nm_look n lw li) (webF_many n lw li) (ea_cons (ev_var rfl) ea_nil) (hr.lt m (List.mem_of_getElem? hm))) fun H2 e2 => ⟨_, rfl, e.trans e2⟩
    rintro σ' H1 ⟨r2, rfl, e1⟩
    have ha1 : H1 a = some (.lst ((r.map fun (m : Nat) => (m : Int)).map V.int)) := by
      rw [← natV_int]
      exact e1 _ _ ha
    refine q_when (b := false) (et_or (a := false) (et_is (et_test (ev_eqNil (ev_var rfl) ha1)) (decide_eq_false fun z => hr.ne (List.map_eq_nil_iff.mp z))) fun _ =>
      et_is (et_test (ev_op (ev_lenSet (es_of (ev_var rfl) (sq_of ha1)) (by rw [List.length_map]; omega)) (ev_len (ev_var rfl) (sq_of ha1)) rv_I0)) (decide_eq_false (by rw [kinds_nodup (nodup_int hr.nd)]; simp only [List.length_map]; omega))) (fun z => by cases z) fun _ H2 e2 => ?_
    have e02 := e1.trans e2
    refine q_asg ev_c fun H3 e3 => ?_
    have e03 := e02.trans e3
    refine q_forR1 (n := (r.length : Int)) (ea_cons (ev_is (ev_len (ev_var rfl) (sq_of (e03 _ _ ha))) (by rw [natV_len])) ea_nil) ⟨by omega, by omega⟩ (fun i σ' H' => ∃ (r2 r4 r5 : Option V), σ' = [some (.ref p), some (.ref a), r2, some (.int (((((cyc r).take i).map fun e => dmaxN ws e.1 e.2).sum : Nat) : Int)), r4, r5] ∧ Ex H H')
      (fun H4 e4 => ⟨_, _, _, rfl, e03.trans e4⟩) ?_ ?_
    · rintro i σ' H' hi ⟨r2, r4, r5, rfl, e⟩
      have hi2 : i < r.length := by omega
      have hc := pairsL_get (r.getLastD 0) r i hi2
      have hmem := hr.way _ (List.mem_of_getElem? hc)
      obtain ⟨hway, hmx⟩ := dmax_way hmem
      have hends := hw.ends _ hway
      have htake : (((cyc r).take (i + 1)).map fun e => dmaxN ws e.1 e.2).sum = (((cyc r).take i).map fun e => dmaxN ws e.1 e.2).sum + dmaxN ws (if i = 0 then r.getLastD 0 else r.getD (i - 1) 0) (r.getD i 0) := by
        rw [List.take_add_one]
        unfold cyc at hc ⊢
        rw [hc, List.map_append, List.sum_append_nat]
        rfl
      have hdne : dels ws (if i = 0 then r.getLastD 0 else r.getD (i - 1) 0) (r.getD i 0) ≠ [] := dels_ne.mpr hmem
      have hget : ∀ k, k < r.length → r[k]? = some (r.getD k 0) := fun k hk => by
        rw [List.getD_eq_getElem?_getD, List.getElem?_eq_getElem hk]
        rfl
      have hprev : Ev (tOp (rIxL K) (tVar 1) (tOp (rI0 fun i j => V.int (i - j)) (tVar 4) (tC (.int 1)))) [some (.ref p), some (.ref a), r2, some (.int (((((cyc r).take i).map fun e => dmaxN ws e.1 e.2).sum : Nat) : Int)), some (.int (i : Int)), r5] H' (.int ((if i = 0 then r.getLastD 0 else r.getD (i - 1) 0 : Nat) : Int)) := by
        refine ev_op (ev_var rfl) (ev_op (ev_var rfl) ev_c rv_I0) (rv_ixL (sq_of (e _ _ ha)) ?_)
        by_cases h0 : i = 0
        · subst h0
          rw [if_pos rfl]
          show atI (natV r) (-1) = _
          refine at_last (natV_at (i := (natV r).length - 1) ?_)
          rw [natV_len, List.getLastD_eq_getLast?, List.getLast?_eq_getElem?, List.getElem?_eq_getElem (by omega)]
          rfl
        · rw [if_neg h0]
          exact at_nat (natV_at (hget (i - 1) (by omega))) (by omega)
      refine q_asg (ev_is (ev_delay (hW.ex e) hw.len (ev_var rfl) (ea_cons hprev (ea_cons (ev_op (ev_var rfl) (ev_var rfl) (rv_ixL (sq_of (e _ _ ha)) (at_nat (natV_at (hget i hi2))))) ea_nil)) hends.1 hends.2) (w := .int (dmaxN ws (if i = 0 then r.getLastD 0 else r.getD (i - 1) 0) (r.getD i 0) : Int)) (by
        unfold dly
        rw [if_neg hdne, hmx])) fun H4 e4 => ?_
      refine q_when (b := false) (et_test (ev_op (ev_var rfl) ev_c rv_isN_int)) (fun z => by cases z) fun _ H5 e5 => ?_
      refine s_asg (ev_is (ev_op (ev_var rfl) (ev_var rfl) rv_I0) (w := .int (((((cyc r).take (i + 1)).map fun e => dmaxN ws e.1 e.2).sum : Nat) : Int)) (by
        rw [htake]
        rfl)) fun H6 e6 => ⟨_, _, _, rfl, ((e.trans e4).trans e5).trans e6⟩
    · rintro σ' H' ⟨r2, r4, r5, rfl, e⟩
      have hsum : (((cyc r).take r.length).map fun e => dmaxN ws e.1 e.2).sum = ringSum ws r := by
        rw [List.take_of_length_le (by rw [cyc_len]; omega)]
        rfl
      refine s_retU (eu_callU (xs := [.int ((ringSum ws r / Nat.gcd (ringSum ws r) r.length : Nat) : Int), .int ((r.length / Nat.gcd (ringSum ws r) r.length : Nat) : Int)]) (ea_cons (ev_var rfl) (ea_cons (ev_is (ev_len (ev_var rfl) (sq_of (e _ _ ha))) (by rw [natV_len])) ea_nil)) fun H1 e1 Q E k => ⟨ringSum ws r, r.length, ?_, hl0, ?_, k⟩) fun p2 H7 hp2 e7 h7 => q.go e hp2 e7 h7
      · show [_, _] = [_, _]
        rw [← hsum]
        rfl
      · have : (12 : Nat) < 2 ^ 600 := by decide
        omega
theorem NewObjs.push {H H' : Hp} {D g : Addr} {n : Nat} {o : Nat → HO} {ps : List Addr} {u : HO} (h : NewObjs H H' D n o ps) (hg : H g = none) (hn : g ∉ ps) (hD : g ≠ D) (h2 : H' g = some (o n)) : NewObjs H (upd H' D u) D (n + 1) o (ps ++ [g]) := by
  refine ⟨by rw [List.length_append, h.len]; rfl, List.nodup_append.mpr ⟨h.nd, by simp, fun a ha b hb => ?_⟩, fun z => ?_, fun a ha => ?_, fun j a ha => ?_⟩
  · rintro rfl
    exact hn (by rw [List.mem_singleton.mp hb] at ha; exact ha)
  · rcases List.mem_append.mp z with z | z
    · exact h.out z
    · exact hD (List.mem_singleton.mp z).symm
  · rcases List.mem_append.mp ha with z | z
    · exact h.fresh a z
    · rw [List.mem_singleton.mp z]
      exact hg
  · by_cases hj : j < ps.length
    · rw [List.getElem?_append_left hj] at ha
      have hne : a ≠ D := fun z => h.out (by rw [← z]; exact List.mem_of_getElem? ha)
      rw [upd_ne hne]
      exact h.at_ j a ha
    · have hj2 : j = ps.length := by
        have := (List.getElem?_eq_some_iff.mp ha).1
        rw [List.length_append] at this
        simp at this
        omega
      subst hj2
      rw [List.getElem?_append_right (Nat.le_refl _), Nat.sub_self] at ha
      obtain rfl : g = a := by simpa using ha
      rw [upd_ne hD, h.len]
      exact h2
theorem NewObjs.zero {H H' : Hp} {D : Addr} {o : Nat → HO} : NewObjs H H' D 0 o [] := ⟨rfl, List.nodup_nil, by simp, by simp, by simp⟩
theorem big_delay {q : Int} {d : Nat} (hq : q.natAbs < 2 ^ 200) (hd : d ≤ 9999) : IntMulOk q (d : Int) := mulok 200 14 hq (by
  have : (9999 : Nat) < 2 ^ 14 := by decide
  have e : ((d : Nat) : Int).natAbs = d := Int.natAbs_natCast d
  rw [e]
  exact Nat.lt_of_le_of_lt hd this)
/-- what follows is shown once -/
theorem q_forM {D : Ends} {tl tz : TS} {σ : L2.St} {H : Hp} {M : L2.St → Hp → Prop} (k : ∀ σ' H', M σ' H' → tz D σ' H') (h : (∀ σ' H', M σ' H' → tz D σ' H') → tSeq tl tz D σ H) : tSeq tl tz D σ H := h k
/-! ### paces.py -/
def sp_step_back (C : Addr) : Sp := fun vs H Q _ => ∃ (p a : Addr) (n : Nat) (ws : List Way) (num div : Int) (g : List Int) (m : Nat) (goal : Int), vs = [.ref p, .int num, .int div, .ref a, .int (m : Int), .int goal] ∧ WebAt C H p n ws ∧ WebOk n ws ∧ H a = some (.lst (intV g)) ∧ g.length = n ∧ m < n ∧ div.natAbs < 2 ^ 200 ∧
  RetV (.int (stepBack ws num div g m goal : Int)) H Q
abbrev s_step_back : Stmt := (top 13)
abbrev N_step_back : List Str := ["web", "number", "divisor", "gains", "meeting", "goal", "one", "delay"]
theorem sc_step_back : FnScope N_step_back ["web", "number", "divisor", "gains", "meeting", "goal"] (defScope s_step_back) := ⟨rfl, rfl, rfl, by decide +kernel, rfl, by decide +kernel, by decide +kernel⟩

theorem ok_step_back (T : Txt K mg) : FnOk P w K mg base CX0 3 T.a_step_back T.d_step_back ["web", "number", "divisor", "gains", "meeting", "goal"] (sp_step_back T.a_Web) := by
  refine okN T.F_step_back sc_step_back (fun vs H Q E h => ?_) (fun cdv A outer s H vs Q E HR h => ?_)
  · obtain ⟨p, a, n, ws, num, div, g, m, goal, rfl, _⟩ := h
    rfl
  · obtain ⟨p, a, n, ws, num, div, g, m, goal, rfl, hW, hw, ha, hg, hm, hq, q⟩ := h
    obtain ⟨vm, k3, hev⟩ := el_into hW hm
    have hlen : vm.length = (inn ws m).length := k3.1.trans (List.length_map _)
    refine ⟨_, (pss_cons (ps_for PassesOwn.never rfl (pi_list (pe_meth (pv 0) T.cl_Web T.m_Web_into (ok_Web_into T) (HR.mono (by decide)) T.b_Web_into .nil pass0 (pa_cons (pv 4) pa_nil))) (pg_tup rfl (pgs_cons (pg_name (i := 6) sc_step_back.nd rfl (by first | exact Or.inl rfl | exact Or.inr rfl)) (pgs_cons (pg_name (i := 7) sc_step_back.nd rfl (by first | exact Or.inl rfl | exact Or.inr rfl)) pgs_nil)))
  (pss_one (ps_if (pt_cmpR op_eq (pe_op op_sub (pe_op op_add (pe_ix ix_list (pv 3) (pv 6) (fun _ _ => rfl)) (pe_op op_mulG (pv 2) (pv 7))) (pv 1)) (pv 5) (nomark _))
  (pss_one (ps_ret (pv 6))) pss_nil)))
  (pss_one (ps_ret (pv 4)))), ?_⟩
    refine q_forS (K := K) (xs := vm) (es_new (hev H _ _ _ _ (Ex.refl H) (ev_var rfl) (ea_cons (ev_var rfl) ea_nil))) (fun H2 i σ' H' => ∃ (r6 r7 : Option V), σ' = [some (.ref p), some (.int num), some (.int div), some (.ref a), some (.int (m : Int)), some (.int goal), r6, r7] ∧ (∀ pr ∈ (inn ws m).take i, isGoal num div g goal pr = false) ∧ Ex H2 H' ∧ Ex H H')
      (fun H2 e2 => ⟨none, none, rfl, by simp, Ex.refl H2, e2⟩) (fun H2 i σ' H' ⟨_, _, _, _, e, _⟩ => e) (fun H2 e2 i x σ' H' hx ⟨r6, r7, hσ, hno, e, e0⟩ => ?_) (fun H2 e2 σ' H' ⟨r6, r7, hσ, hno, e, e0⟩ => ?_)
    · subst hσ
      obtain ⟨p2, xv, rfl, hxv, hp2⟩ := (k3.ex e0).at hx
      rw [List.getElem?_map] at hxv
      obtain ⟨pr, hpr, rfl⟩ := Option.map_eq_some_iff.mp hxv
      have hmem := List.mem_of_getElem? hpr
      have hb := inn_lt hw hmem
      refine g_tup2 (K := K) hp2 ?_
      refine s_when (b := isGoal num div g goal pr) (et_is (et_test (ev_op (ev_op (ev_op (ev_op (ev_var rfl) (ev_var rfl) (rv_ixL (sq_of (e0 _ _ ha)) (at_nat (intV_at (by rw [hg]; exact hb.1))))) (ev_op (ev_var rfl) (ev_var rfl) (rv_I (big_delay hq hb.2.2))) rv_I0) (ev_var rfl) rv_I0) (ev_var rfl) (rv_eq rfl))) ?_) (fun hc H3 e3 => ?_) (fun hc H3 e3 => ?_)
      · exact decide_eq_decide.mpr ⟨fun z => V.int.inj z, fun z => congrArg V.int z⟩
      · refine s_ret (ev_var rfl) fun H4 e4 => ?_
        have hs : stepBack ws num div g m goal = pr.1 := by
          unfold stepBack
          have hf : (inn ws m).find? (isGoal num div g goal) = some pr := by
            have hi := List.getElem?_eq_some_iff.mp hpr
            rw [← List.take_append_drop i (inn ws m), List.find?_append, List.find?_eq_none.mpr (fun x hx => by rw [hno x hx]; simp), List.drop_eq_getElem_cons hi.1, List.find?_cons]
            rw [hi.2, hc]
            rfl
          rw [hf]
        have := q H4 ((e0.trans e3).trans e4)
        rw [hs] at this
        exact this
      · refine ⟨_, _, rfl, fun x hx => ?_, e.trans e3, e0.trans e3⟩
        rw [List.take_add_one, hpr] at hx
        rcases List.mem_append.mp hx with z | z
        · exact hno x z
        · have : x = pr := by simpa using z
          rw [this]
          exact hc
    · subst hσ
      refine s_ret (ev_var rfl) fun H4 e4 => ?_
      have hs : stepBack ws num div g m goal = m := by
        unfold stepBack
        rw [List.take_of_length_le (by omega)] at hno
        rw [List.find?_eq_none.mpr (fun x hx => by rw [hno x hx]; simp)]
      have := q H4 (e0.trans e4)
      rw [hs] at this
      exact this
def sp_ring_of : Sp := fun vs H Q _ => ∃ (a : Addr) (w : List Nat), vs = [.ref a] ∧ H a = some (.lst (natV w)) ∧ w.length ≤ 1000 ∧ cutRing [] w ≠ [] ∧ RetL (natV (ringOf w)) H Q
theorem cutRing_app : ∀ (u acc v : List Nat), (acc ++ u).Nodup → cutRing acc (u ++ v) = cutRing (acc ++ u) v
  | [], acc, v, _ => by rw [List.append_nil]; rfl
  | m :: u, acc, v, h => by
    have hm : m ∉ acc := fun z => by
      have := (List.nodup_append.mp h).2.2 m z m List.mem_cons_self
      exact this rfl
    rw [List.cons_append, cutRing, if_neg hm, cutRing_app u (acc ++ [m]) v (by rw [List.append_assoc]; exact h), List.append_assoc]
    rfl
theorem cutRing_len : ∀ (w acc : List Nat), (cutRing acc w).length ≤ acc.length + w.length
  | [], acc => Nat.le_refl _
  | m :: w, acc => by
    unfold cutRing
    split
    · rw [List.length_drop]
      omega
    · have := cutRing_len w (acc ++ [m])
      rw [List.length_append] at this
      simp only [List.length_cons, List.length_nil] at this ⊢
      omega
theorem natV_drop (xs : List Nat) (k : Nat) : (natV xs).drop k = natV (xs.drop k) := by
  unfold natV
  rw [List.map_drop]
theorem natV_take (xs : List Nat) (k : Nat) : (natV xs).take k = natV (xs.take k) := by
  unfold natV
  rw [List.map_take]
abbrev s_ring_of : Stmt := (top 14)
abbrev N_ring_of : List Str := ["walk", "ring", "meeting", "least"]
theorem sc_ring_of : FnScope N_ring_of ["walk"] (defScope s_ring_of) := ⟨rfl, rfl, rfl, by decide +kernel, rfl, by decide +kernel, by decide +kernel⟩

theorem ok_ring_of (T : Txt K mg) : FnOk P w K mg base CX0 1 T.a_ring_of T.d_ring_of ["walk"] sp_ring_of := by
  refine okN T.F_ring_of sc_ring_of (fun vs H Q E h => ?_) (fun cdv A outer s H vs Q E HR h => ?_)
  · obtain ⟨a, w, rfl, _⟩ := h
    rfl
  · obtain ⟨a, w, rfl, ha, hz, hne, q⟩ := h
    have hcl := cutRing_len w []
    refine ⟨_, (pss_cons (ps_set (i := 1) sc_ring_of.nd rfl (by first | exact Or.inl rfl | exact Or.inr rfl) (pe_lst pa_nil))
  (pss_cons (ps_for PassesOwn.never rfl (pi_list (pv 0)) (pg_name (i := 2) sc_ring_of.nd rfl (by first | exact Or.inl rfl | exact Or.inr rfl))
  (pss_cons (ps_if (pt_cmpR op_in_seq (pv 2) (pv 1) rfl)
  (pss_cons (ps_set (i := 1) sc_ring_of.nd rfl (by first | exact Or.inl rfl | exact Or.inr rfl) (pe_slice sl_list (pv 1) (po_some (pe_bm PySem.F.plainAttrs_list PySem.F.slot_list_index PySem.F.type_list_index mt_index (pv 1) (pa_cons (pv 2) pa_nil))) po_none))
  (pss_one ps_break)) pss_nil)
  (pss_one (ps_expr (pe_bm PySem.F.plainAttrs_list PySem.F.slot_list_append PySem.F.type_list_append mt_append (pv 1) (pa_cons (pv 2) pa_nil))))))
  (pss_cons (ps_set (i := 1) sc_ring_of.nd rfl (by first | exact Or.inl rfl | exact Or.inr rfl) (pe_listRev rfl (by rfl) T.n_list (by rfl) T.n_reversed (pv 1)))
  (pss_cons (ps_set (i := 3) sc_ring_of.nd rfl (by first | exact Or.inl rfl | exact Or.inr rfl) (pe_bm PySem.F.plainAttrs_list PySem.F.slot_list_index PySem.F.type_list_index mt_index (pv 1) (pa_cons (pe_callB (cr_min rfl) (by rfl) T.n_min (by decide +kernel) (pa_cons (pv 1) pa_nil)) pa_nil)))
  (pss_one (ps_ret (pe_op op_cat (pe_slice sl_list (pv 1) (po_some (pv 3)) po_none) (pe_slice sl_list (pv 1) po_none (po_some (pv 3)))))))))), ?_⟩
    refine q_asgL (el_lst ea_nil (by simp)) fun l0 H1 hl0 e1 h1 => ?_
    refine q_forM (M := fun σ' H' => ∃ (l : Addr) (r2 r3 : Option V), σ' = [some (.ref a), some (.ref l), r2, r3] ∧ H' l = some (.lst (natV (cutRing [] w))) ∧ Ex H H') ?_ fun rest => ?_
    · rintro σ' H' ⟨l, r2, r3, rfl, hl, e⟩
      refine q_asgL (el_rev (es_of (ev_var rfl) (sq_of hl))) fun l2 H2 hl2 e2 h2 => ?_
      have h2 : H2 l2 = some (.lst (natV (cutRing [] w).reverse)) := by
        rw [h2]
        unfold natV
        rw [List.map_reverse]
      have hne2 : (cutRing [] w).reverse ≠ [] := fun z => hne (List.reverse_eq_nil_iff.mp z)
      refine q_asg (v := .int (((cutRing [] w).reverse.idxOf (mnN (cutRing [] w).reverse) : Nat) : Int)) (ev_index (ev_var rfl) h2 (ea_cons (ev_min (ns := (cutRing [] w).reverse.map fun (m : Nat) => (m : Int)) (es_of (ev_var rfl) (by rw [← natV_int]; exact sq_of h2)) (List.mem_map.mpr ⟨_, mnN_mem hne2, rfl⟩) (fun y hy => by
        obtain ⟨m, hm, rfl⟩ := List.mem_map.mp hy
        have := mnN_le hm
        omega)) ea_nil) (mnN_mem hne2)) fun H3 e3 => ?_
      have h3 := e3 _ _ h2
      refine s_retL (el_cat (ew_new (el_sl (ev_var rfl) (eo_some (ev_var rfl)) eo_none (sq_of h3))) (ew_new (el_sl (ev_var rfl) eo_none (eo_some (ev_var rfl)) (sq_of h3))) ?_) fun p H4 hp e4 h4 => q.go ((e.trans e2).trans e3) hp e4 ?_
      · have a1 := cutV_length (natV (cutRing [] w).reverse) (some (((cutRing [] w).reverse.idxOf (mnN (cutRing [] w).reverse) : Nat) : Int)) none
        have a2 := cutV_length (natV (cutRing [] w).reverse) none (some (((cutRing [] w).reverse.idxOf (mnN (cutRing [] w).reverse) : Nat) : Int))
        rw [natV_len, List.length_reverse] at a1 a2
        simp only [List.length_nil] at hcl
        omega
      · rw [h4, cutV_drop, cutV_take, natV_drop, natV_take, ← natV_app]
        rfl
    · refine q_forL (a := a) (xs := natV w) (ev_var rfl) (sq_of (e1 _ _ ha)) (fun i σ' H' => ∃ (l : Addr) (r2 : Option V), σ' = [some (.ref a), some (.ref l), r2, none] ∧ (w.take i).Nodup ∧ l ≠ a ∧ H l = none ∧ H' l = some (.lst (natV (w.take i))) ∧ Ex H H')
        (fun H2 e2 => ⟨l0, none, rfl, by simp, fun z => (by rw [z, ha] at hl0; cases hl0), hl0, e2 _ _ h1, e1.trans e2⟩) (fun i σ' H' _ ⟨_, _, _, _, _, _, _, e⟩ => sq_of (e _ _ ha)) ?_ ?_
      · rintro i x σ' H' hx ⟨l, r2, rfl, hnd, hla, hlf, hl, e⟩
        obtain ⟨m, hm, rfl⟩ : ∃ m, w[i]? = some m ∧ x = .int (m : Int) := by
          unfold natV at hx
          rw [List.getElem?_map] at hx
          obtain ⟨m, hm, rfl⟩ := Option.map_eq_some_iff.mp hx
          exact ⟨m, hm, rfl⟩
        have hi := List.getElem?_eq_some_iff.mp hm
        have hcut : cutRing [] w = cutRing (w.take i) (m :: w.drop (i + 1)) := by
          have h1 : w = w.take i ++ m :: w.drop (i + 1) := by
            rw [← hi.2, ← List.drop_eq_getElem_cons hi.1, List.take_append_drop]
          have h2 := cutRing_app (w.take i) [] (m :: w.drop (i + 1)) hnd
          rw [List.nil_append, ← h1] at h2
          exact h2
        have hlen : (w.take i).length ≤ 1000 := by rw [List.length_take]; omega
        refine q_when (b := decide (m ∈ w.take i)) (et_is (et_test (ev_op (ev_var rfl) (ev_var rfl) (rv_isL (sq_of hl) rfl (flat_natV _)))) (inV_nat _ _)) (fun hb H3 e3 => ?_) (fun hb H3 e3 => ?_)
        · have hb := of_decide_eq_true hb
          have hl3 := e3 _ _ hl
          refine q_asgL (el_sl (ev_var rfl) (eo_some (ev_index (ev_var rfl) hl3 (ea_cons (ev_var rfl) ea_nil) hb)) eo_none (sq_of hl3)) fun l2 H4 hl2 e4 h4 => ?_
          refine rest _ _ ⟨l2, _, _, rfl, ?_, (e.trans e3).trans e4⟩
          rw [h4, cutV_drop, natV_drop, hcut, cutRing, if_pos hb]
        · have hb := of_decide_eq_false hb
          refine s_app (l := l) (e3 _ _ hl) (ev_var rfl) (ev_var rfl) (by rw [natV_len]; omega) fun H4 e4 => ?_
          refine ⟨l, _, rfl, ?_, hla, hlf, ?_, Ex.mut ((e.trans e3).trans e4) hlf⟩
          · rw [List.take_add_one, hm]
            refine List.nodup_append.mpr ⟨hnd, by simp, fun a ha b hb2 => ?_⟩
            rintro rfl
            exact hb (by
              have : a = m := by simpa using hb2
              rw [this] at ha
              exact ha)
          · rw [upd_same, List.take_add_one, hm, natV_app]
            rfl
      · rintro σ' H' ⟨l, r2, rfl, hnd, hla, hlf, hl, e⟩
        refine rest _ _ ⟨l, _, _, rfl, ?_, e⟩
        rw [natV_len, List.take_length] at hnd hl
        rw [hl]
        have h2 := cutRing_app w [] [] hnd
        rw [List.append_nil, List.nil_append] at h2
        rw [h2]
        rfl
def sp_rounds (C : Addr) : Sp := fun vs H Q _ => ∃ (p : Addr) (n : Nat) (ws : List Way) (num div : Int), vs = [.ref p, .int num, .int div] ∧ WebAt C H p n ws ∧ WebOk n ws ∧ div.natAbs < 2 ^ 200 ∧ RetOs (n + 1) (fun i => .lst (intV (gG n ws num div i))) H Q
abbrev s_rounds : Stmt := (top 12)
abbrev N_rounds : List Str := ["web", "number", "divisor", "gains", "found", "turn", "more", "meeting", "sums", "one", "delay"]
theorem sc_rounds : FnScope N_rounds ["web", "number", "divisor"] (defScope s_rounds) := ⟨rfl, rfl, rfl, by decide +kernel, rfl, by decide +kernel, by decide +kernel⟩

theorem ok_rounds (T : Txt K mg) : FnOk P w K mg base CX0 3 T.a_rounds T.d_rounds ["web", "number", "divisor"] (sp_rounds T.a_Web) := by
  refine okN T.F_rounds sc_rounds (fun vs H Q E h => ?_) (fun cdv A outer s H vs Q E HR h => ?_)
  · obtain ⟨p, n, ws, num, div, rfl, _⟩ := h
    rfl
  · obtain ⟨p, n, ws, num, div, rfl, hW, hw, hq, q⟩ := h
    have hW0 := hW
    obtain ⟨dx, lw, li, vw, vi, h1, _⟩ := hW0
    have hn12 := hw.n12
    refine ⟨_, (pss_cons (ps_set (i := 3) sc_rounds.nd rfl (by first | exact Or.inl rfl | exact Or.inr rfl) (pe_lc (g := (gName 7)) (tt := tYes) (te := (tC (.int 0))) (own := [("meeting", 7)]) rfl sc_rounds.nd (pi_range1 (by rfl) T.n_range (pa_cons (pe_fld (pv 0) rfl) pa_nil)) (blkOk_by (own := [("meeting", 7)]) (N := N_rounds) (sc := defScope s_rounds) (by decide +kernel)) (fun _ _ _ _ _ => (pg_name (i := 7) sc_rounds.nd rfl (by first | exact Or.inl rfl | exact Or.inr rfl))) (fun _ _ _ _ _ => pts_nil) (fun _ _ _ _ _ => pe_int)) (hs := sw_cell rfl))
  (pss_cons (ps_set (i := 4) sc_rounds.nd rfl (by first | exact Or.inl rfl | exact Or.inr rfl) (pe_lst pa_nil))
  (pss_cons (ps_for PassesOwn.never rfl (pi_range1 (by rfl) T.n_range (pa_cons (pe_op op_add (pe_fld (pv 0) rfl) pe_int) pa_nil)) (pg_name (i := 5) sc_rounds.nd rfl (by first | exact Or.inl rfl | exact Or.inr rfl))
  (pss_cons (ps_expr (pe_bm PySem.F.plainAttrs_list PySem.F.slot_list_append PySem.F.type_list_append mt_append (pv 4) (pa_cons (pv 3) pa_nil)))
  (pss_cons (ps_set (i := 6) sc_rounds.nd rfl (by first | exact Or.inl rfl | exact Or.inr rfl) (pe_lst pa_nil))
  (pss_cons (ps_for PassesOwn.never rfl (pi_range1 (by rfl) T.n_range (pa_cons (pe_fld (pv 0) rfl) pa_nil)) (pg_name (i := 7) sc_rounds.nd rfl (by first | exact Or.inl rfl | exact Or.inr rfl))
  (pss_cons (ps_setLc (i := 8) (g := (gTup K 2 (gCons (gName 9) (gCons (gName 10) gNil)))) (tt := tYes) (te := (tOp (rI0 fun i j => .int (i - j)) (tOp (rI0 fun i j => .int (i + j)) (tOp (rIxL K) (tVar 3) (tVar 9)) (tOp (rI IntMulOk fun i j => .int (i * j)) (tVar 2) (tVar 10))) (tVar 1))) (own := [("one", 9), ("delay", 10)]) rfl sc_rounds.nd rfl rfl (sw_true rfl rfl rfl (by decide +kernel)) (pi_list (pe_meth (pv 0) T.cl_Web T.m_Web_into (ok_Web_into T) (HR.mono (by decide)) T.b_Web_into .nil pass0 (pa_cons (pv 7) pa_nil))) (blkOk_by (own := [("one", 9), ("delay", 10)]) (N := N_rounds) (sc := defScope s_rounds) (by decide +kernel)) (fun _ _ _ _ _ => (pg_tup rfl (pgs_cons (pg_name (i := 9) sc_rounds.nd rfl (by first | exact Or.inl rfl | exact Or.inr rfl)) (pgs_cons (pg_name (i := 10) sc_rounds.nd rfl (by first | exact Or.inl rfl | exact Or.inr rfl)) pgs_nil)))) (fun _ _ _ _ _ => pts_nil) (fun _ _ _ _ _ => (pe_op op_sub (pe_op op_add (pe_ix ix_list (pv 3) (pv 9) (fun _ _ => rfl)) (pe_op op_mulG (pv 2) (pv 10))) (pv 1))))
  (pss_one (ps_expr (pe_bm PySem.F.plainAttrs_list PySem.F.slot_list_append PySem.F.type_list_append mt_append (pv 6) (pa_cons (pe_callB (call_max2 rfl) (by rfl) T.n_max (by decide +kernel) (pa_cons (pe_ix ix_list (pv 3) (pv 7) (fun _ _ => rfl)) (pa_cons (pe_callB (cr_max rfl) (by rfl) T.n_max (by decide +kernel) (pa_cons (pv 8) pa_nil)) pa_nil))) pa_nil))))))
  (pss_one (ps_set (i := 3) sc_rounds.nd rfl (by first | exact Or.inl rfl | exact Or.inr rfl) (pv 6)))))))
  (pss_one (ps_ret (pv 4)))))), ?_⟩
    refine q_asgL (el_lcR1 (n := (n : Int)) (fun _ => true) (fun _ => .int 0) (ea_cons (ev_fld (ev_var rfl) h1 T.cl_Web T.na_many (webF_many n lw li)) ea_nil) ⟨by omega, by omega⟩ (fun x => rfl) (fun i H1 e1 hi => et_true) (fun i H1 e1 hi _ => ev_c)) fun g0 H1 hg0 e1 hG0 => ?_
    have hG0 : H1 g0 = some (.lst (intV (gG n ws num div 0))) := by
      rw [hG0, given_all, Int.toNat_natCast]
      unfold intV gG
      rw [List.map_map]
      rfl
    refine q_asgL (el_lst ea_nil (by simp)) fun l H2 hl e2 h2 => ?_
    have e02 := e1.trans e2
    have hll : H l = none := fresh_back e1 hl
    refine q_forR1 (n := ((n + 1 : Nat) : Int)) (ea_cons (ev_is (ev_op (ev_fld (ev_var rfl) (e02 _ _ h1) T.cl_Web T.na_many (webF_many n lw li)) ev_c rv_I0) rfl) ea_nil) ⟨by omega, by omega⟩
      (fun i σ' H' => ∃ (g : Addr) (r5 r6 r7 r8 : Option V) (ps : List Addr), σ' = [some (.ref p), some (.int num), some (.int div), some (.ref g), some (.ref l), r5, r6, r7, r8, none, none] ∧ H g = none ∧ g ≠ l ∧ g ∉ ps ∧ H' g = some (.lst (intV (gG n ws num div i))) ∧ H' l = some (.lst (ps.map V.ref)) ∧ Ex H H' ∧ NewObjs H H' l i (fun i => .lst (intV (gG n ws num div i))) ps)
      (fun H3 e3 => ⟨g0, none, none, none, none, [], rfl, hg0, fun z => (by rw [← z, hG0] at hl; cases hl), by simp, (e2.trans e3) _ _ hG0, e3 _ _ h2, e02.trans e3, .zero⟩) ?_ ?_
    · rintro i σ' H' hi ⟨g, r5, r6, r7, r8, ps, rfl, hg, hgl, hgp, hG, hl', e, hN⟩
      refine q_app (l := l) hl' (ev_var rfl) (ev_var rfl) (by rw [List.length_map, hN.len]; omega) fun H3 e3 => ?_
      have hNb := (hN.mono e3).push (u := .lst (ps.map V.ref ++ [.ref g])) hg hgp hgl (e3 _ _ hG)
      have eb : Ex H (upd H3 l (.lst (ps.map V.ref ++ [.ref g]))) := Ex.mut (e.trans e3) hll
      have lb : upd H3 l (.lst (ps.map V.ref ++ [.ref g])) l = some (.lst ((ps ++ [g]).map V.ref)) := by
        rw [upd_same, List.map_append]
        rfl
      have gb : upd H3 l (.lst (ps.map V.ref ++ [.ref g])) g = some (.lst (intV (gG n ws num div i))) := by
        rw [upd_ne hgl]
        exact e3 _ _ hG
      generalize upd H3 l (.lst (ps.map V.ref ++ [.ref g])) = Hb at hNb eb lb gb
      refine q_asgL (el_lst ea_nil (by simp)) fun m0 H4 hm0 e4 h4 => ?_
      refine q_forR1 (n := (n : Int)) (ea_cons (ev_fld (ev_var rfl) (e4 _ _ (eb _ _ h1)) T.cl_Web T.na_many (webF_many n lw li)) ea_nil) ⟨by omega, by omega⟩
        (fun j σ' H' => ∃ (r7 r8 : Option V), σ' = [some (.ref p), some (.int num), some (.int div), some (.ref g), some (.ref l), some (.int (i : Int)), some (.ref m0), r7, r8, none, none] ∧ H' m0 = some (.lst (intV ((List.range j).map (gval ws num div (gG n ws num div i))))) ∧ Ex Hb H')
        (fun H5 e5 => ⟨r7, r8, rfl, e5 _ _ h4, e4.trans e5⟩) ?_ ?_
      · rintro j σ' H' hj ⟨r7, r8, rfl, hm, e5⟩
        have hj2 : j < n := by omega
        have eH := eb.trans e5
        refine q_asgL (xs := (inn ws j).map fun pr => .int (gsum num div (gG n ws num div i) pr)) (el_overInto (fun pr => .int (gsum num div (gG n ws num div i) pr)) (hW.ex eH) hj2 hw.len (ev_var rfl) (ea_cons (ev_var rfl) ea_nil) (fun x y => rfl) fun pr hpr H5 e6 =>
          ev_op (ev_op (ev_op (ev_var rfl) (ev_var rfl) (rv_ixL (sq_of (e6 _ _ (e5 _ _ gb))) (at_nat (intV_at (by rw [gG_len]; exact (inn_lt hw hpr).1))))) (ev_op (ev_var rfl) (ev_var rfl) (rv_I (big_delay hq (inn_lt hw hpr).2.2))) rv_I0) (ev_var rfl) rv_I0) fun s0 H5 hs0 e6 h6 => ?_
        have h6 : H5 s0 = some (.lst (((inn ws j).map (gsum num div (gG n ws num div i))).map V.int)) := by
          rw [h6, List.map_map]
          rfl
        have hne : (inn ws j).map (gsum num div (gG n ws num div i)) ≠ [] := by simpa using hw.inn_ne hj2
        refine s_app (l := m0) (e6 _ _ hm) (ev_var rfl) (ev_max2 (ev_op (ev_var rfl) (ev_var rfl) (rv_ixL (sq_of (e6 _ _ (e5 _ _ gb))) (at_nat (intV_at (by rw [gG_len]; exact hj2))))) (ev_max (es_of (ev_var rfl) (sq_of h6)) hne)) (by rw [intV_len, List.length_map, List.length_range]; omega) fun H6 e7 => ?_
        refine ⟨_, _, rfl, ?_, Ex.mut ((e5.trans e6).trans e7) hm0⟩
        rw [upd_same, range_snoc, intV_app]
        rfl
      · rintro σ' H' ⟨r7, r8, rfl, hm, e5⟩
        have hm : H' m0 = some (.lst (intV (gG n ws num div (i + 1)))) := by
          rw [hm]
          rfl
        refine s_asg (ev_var rfl) fun H5 e6 => ?_
        have e56 := e5.trans e6
        exact ⟨m0, _, _, _, _, ps ++ [g], rfl, fresh_back eb hm0, fun z => (by rw [z, lb] at hm0; cases hm0), fun z => (by
          obtain ⟨k, hk⟩ := List.mem_iff_getElem?.mp z
          have := hNb.at_ k m0 hk
          rw [hm0] at this
          cases this), e6 _ _ hm, e56 _ _ lb, eb.trans e56, hNb.mono e56⟩
    · rintro σ' H' ⟨g, r5, r6, r7, r8, ps, rfl, hg, hgl, hgp, hG, hl', e, hN⟩
      refine s_ret (ev_var rfl) fun H4 e4 => q l H4 ps hll (e.trans e4) (e4 _ _ hl') (hN.mono e4)
/-- first_ring's walk -/
def fwalk (ws : List Way) : Nat → Nat
  | 0 => 0
  | i + 1 => ((inn ws (fwalk ws i)).getD 0 (0, 0)).1
theorem fwalk_ok {n : Nat} {ws : List Way} (hw : WebOk n ws) : ∀ i, fwalk ws i < n ∧ (fwalk ws (i + 1), fwalk ws i) ∈ edges ws := by
  have key : ∀ m, m < n → ∃ d, (((inn ws m).getD 0 (0, 0)).1, m, d) ∈ ws := fun m hm => by
    obtain ⟨pr, r, e⟩ := List.exists_cons_of_ne_nil (hw.inn_ne hm)
    rw [e]
    have : pr ∈ inn ws m := by rw [e]; exact List.mem_cons_self
    exact ⟨pr.2, mem_inn.mp this⟩
  intro i
  induction i with
  | zero =>
    have h0 : 0 < n := hw.n1
    obtain ⟨d, hd⟩ := key 0 h0
    exact ⟨h0, mem_edges.mpr ⟨d, hd⟩⟩
  | succ i ih =>
    obtain ⟨d, hd⟩ := mem_edges.mp ih.2
    have h1 := (hw.ends _ hd).1
    obtain ⟨d2, hd2⟩ := key _ h1
    exact ⟨h1, mem_edges.mpr ⟨d2, hd2⟩⟩
def fring (n : Nat) (ws : List Way) : List Nat := ringOf ((List.range (n + 1)).map (fwalk ws))
theorem fring_ok {n : Nat} {ws : List Way} (hw : WebOk n ws) : IsRing n ws (fring n ws) ∧ ∀ x ∈ fring n ws, (fring n ws).getD 0 0 ≤ x := by
  have hlen : ((List.range (n + 1)).map (fwalk ws)).length = n + 1 := by simp
  obtain ⟨i, j, hij, hj, he, r1, r2, r3, r4, r5, r6⟩ := ringOf_ok (w := (List.range (n + 1)).map (fwalk ws)) (n := n) (by omega) (fun x hx => by
    obtain ⟨i, _, rfl⟩ := List.mem_map.mp hx
    exact (fwalk_ok hw i).1)
  rw [hlen] at hj
  refine ⟨⟨r2, r1, r3, fun e hmem => ?_⟩, r4⟩
  obtain ⟨k, hk, rfl⟩ := List.mem_map.mp (r6.mem_iff.mp hmem)
  have := List.mem_range.mp hk
  rw [map_range_getD _ _ _ _ (by omega), map_range_getD _ _ _ _ (by omega)]
  exact (fwalk_ok hw (i + k)).2
theorem cut_ne {w : List Nat} (h : ringOf w ≠ []) : cutRing [] w ≠ [] := fun z => h (by
  unfold ringOf
  rw [z]
  rfl)
def sp_first_ring (C : Addr) : Sp := fun vs H Q _ => ∃ (p : Addr) (n : Nat) (ws : List Way), vs = [.ref p] ∧ WebAt C H p n ws ∧ WebOk n ws ∧ RetL (natV (fring n ws)) H Q
abbrev s_first_ring : Stmt := (top 16)
abbrev N_first_ring : List Str := ["web", "walk", "turn"]
theorem sc_first_ring : FnScope N_first_ring ["web"] (defScope s_first_ring) := ⟨rfl, rfl, rfl, by decide +kernel, rfl, by decide +kernel, by decide +kernel⟩

theorem ok_first_ring (T : Txt K mg) : FnOk P w K mg base CX0 3 T.a_first_ring T.d_first_ring ["web"] (sp_first_ring T.a_Web) := by
  refine okN T.F_first_ring sc_first_ring (fun vs H Q E h => ?_) (fun cdv A outer s H vs Q E HR h => ?_)
  · obtain ⟨p, n, ws, rfl, _⟩ := h
    rfl
  · obtain ⟨p, n, ws, rfl, hW, hw, q⟩ := h
    have hW0 := hW
    obtain ⟨dx, lw, li, vw, vi, h1, _⟩ := hW0
    have hn12 := hw.n12
    refine ⟨_, (pss_cons (ps_set (i := 1) sc_first_ring.nd rfl (by first | exact Or.inl rfl | exact Or.inr rfl) (pe_lst (pa_cons pe_int pa_nil)))
  (pss_cons (ps_for PassesOwn.never rfl (pi_range1 (by rfl) T.n_range (pa_cons (pe_fld (pv 0) rfl) pa_nil)) (pg_name (i := 2) sc_first_ring.nd rfl (by first | exact Or.inl rfl | exact Or.inr rfl))
  (pss_one (ps_expr (pe_bm PySem.F.plainAttrs_list PySem.F.slot_list_append PySem.F.type_list_append mt_append (pv 1) (pa_cons (pe_ix ix_tup (pe_ix ix_list (pe_meth (pv 0) T.cl_Web T.m_Web_into (ok_Web_into T) (HR.mono (by decide)) T.b_Web_into .nil pass0 (pa_cons (pe_ix ix_list (pv 1) (pe_un un_neg pe_int) (fun _ _ => rfl)) pa_nil)) pe_int (fun _ _ => rfl)) pe_int (fun _ _ => rfl)) pa_nil)))))
  (pss_one (ps_ret (pe_call (ok_ring_of T) (HR.mono (by decide)) (by rfl) T.g_ring_of T.F_ring_of.kp T.b_ring_of .nil pass0 (pa_cons (pv 1) pa_nil)))))), ?_⟩
    refine q_asgL (el_lst (ea_cons ev_c ea_nil) (by simp)) fun l H1 hl e1 h2 => ?_
    refine q_forR1 (n := (n : Int)) (ea_cons (ev_fld (ev_var rfl) (e1 _ _ h1) T.cl_Web T.na_many (webF_many n lw li)) ea_nil) ⟨by omega, by omega⟩
      (fun i σ' H' => ∃ (r2 : Option V), σ' = [some (.ref p), some (.ref l), r2] ∧ H' l = some (.lst (natV ((List.range (i + 1)).map (fwalk ws)))) ∧ Ex H H')
      (fun H3 e3 => ⟨none, rfl, e3 _ _ h2, e1.trans e3⟩) ?_ ?_
    · rintro i σ' H' hi ⟨r2, rfl, hl', e⟩
      obtain ⟨vm, k3, hev⟩ := el_into (hW.ex e) (fwalk_ok hw i).1
      obtain ⟨pr, rr, epr⟩ := List.exists_cons_of_ne_nil (hw.inn_ne (fwalk_ok hw i).1)
      obtain ⟨q0, hq0, ht0⟩ := k3.2 0 (pairV pr) (by rw [epr]; rfl)
      have hlast : (natV ((List.range (i + 1)).map (fwalk ws)))[(natV ((List.range (i + 1)).map (fwalk ws))).length - 1]? = some (.int ((fwalk ws i : Nat) : Int)) := by
        refine natV_at ?_
        rw [natV_len, List.length_map, List.length_range, Nat.add_sub_cancel, List.getElem?_map, List.getElem?_range (by omega)]
        rfl
      refine s_app (l := l) hl' (ev_var rfl) (v := .int ((fwalk ws (i + 1) : Nat) : Int)) ?_ (by rw [natV_len, List.length_map, List.length_range]; omega) fun H4 e4 => ?_
      · intro H5 e5 Q qq
        refine hev H5 _ E0 (tVar 0) (tCons (tOp (rIxL K) (tVar 1) (tUn (rU fun i => .int (-i)) (tC (.int 1)))) tNil) e5 (ev_var rfl) (ea_cons (ev_op (ev_var rfl) (ev_un ev_c ru_neg) (rv_ixL (sq_of (e5 _ _ hl')) (at_last hlast))) ea_nil) H5 (Ex.refl _) _ fun D H6 hD e6 h6 => ?_
        refine ⟨D, vm, 0, .ref q0, rfl, rfl, sq_of h6, at_nat hq0, ?_⟩
        refine ⟨q0, pairV pr, 0, .int (pr.1 : Int), rfl, rfl, st_of (e6 _ _ (e5 _ _ ht0)), rfl, ?_⟩
        have : fwalk ws (i + 1) = pr.1 := by
          show ((inn ws (fwalk ws i)).getD 0 (0, 0)).1 = _
          rw [epr]
          rfl
        rw [this] at qq
        exact qq H6 e6
      · refine ⟨_, rfl, ?_, Ex.mut (e.trans e4) hl⟩
        rw [upd_same, range_snoc _ (i + 1), natV_app]
        rfl
    · rintro σ' H' ⟨r2, rfl, hl', e⟩
      refine s_retL (el_callL (ea_cons (ev_var rfl) ea_nil) fun H2 e2 Q E k => ⟨l, (List.range (n + 1)).map (fwalk ws), rfl, e2 _ _ hl', by simp; omega, cut_ne (fring_ok hw).1.ne, k⟩) fun p2 H3 hp2 e3 h3 => q.go e hp2 e3 h3
section
variable {K : PySem.W.Frag} {σ : L2.St} {H : Hp} {te : TE} {D : Ends} {tu tz : TS}
/-- for x in range(n, 0, -1) -/
theorem s_forD {ta : TA} {j n : Nat} (h : EvA ta σ H [.int (n : Int), .int 0, .int (-1)]) (hn : n ≤ 100000) (Pv : Nat → L2.St → Hp → Prop) (h0 : ∀ H1, Ex H H1 → Pv 0 σ H1)
    (hs : ∀ i σ' H', i < n → Pv i σ' H' → tu { D with nx := Pv (i + 1), ct := Pv (i + 1), bk := D.nx } (σ'.set j (some (.int ((n - i : Nat) : Int)))) H') (hd : ∀ σ' H', Pv n σ' H' → D.nx σ' H') : tFor (iRng3 ta) (gName j) tu D σ H :=
  h H (Ex.refl H) _ fun H1 e1 => ⟨(n : Int), 0, -1, n, rfl, by
    have r := RgC.neg (i := (n : Int)) (j := 0) (by omega) (by omega) (by omega) (by omega)
    rw [Int.sub_zero, Int.toNat_natCast] at r
    exact r, for_rangeC Pv (h0 H1 e1) (fun i σ' H' hi p => by
      have e : (n : Int) + ((i : Nat) : Int) * (-1) = ((n - i : Nat) : Int) := by omega
      show tu _ (σ'.set j (some (.int ((n : Int) + ((i : Nat) : Int) * (-1))))) H'
      rw [e]
      exact hs i σ' H' hi p) hd⟩
theorem q_forD {ta : TA} {j n : Nat} (h : EvA ta σ H [.int (n : Int), .int 0, .int (-1)]) (hn : n ≤ 100000) (Pv : Nat → L2.St → Hp → Prop) (h0 : ∀ H1, Ex H H1 → Pv 0 σ H1)
    (hs : ∀ i σ' H', i < n → Pv i σ' H' → tu { D with nx := Pv (i + 1), ct := Pv (i + 1), bk := tz D } (σ'.set j (some (.int ((n - i : Nat) : Int)))) H') (hd : ∀ σ' H', Pv n σ' H' → tz D σ' H') : tSeq (tFor (iRng3 ta) (gName j) tu) tz D σ H :=
  s_forD (D := { D with nx := tz D }) h hn Pv h0 hs hd
/-- (x, new list), (new list, x) -/
theorem ek_tupNL {x : V} {xs : List V} (h : EvL te σ H xs) : EvK (tTup (tCons (tC x) (tCons te tNil))) σ H (fun H1 Q => ∀ t l H2, H1 t = none → H1 l = none → Ex H1 H2 → H2 t = some (.tup [x, .ref l]) → H2 l = some (.lst xs) → Q (.ref t) H2) := fun H1 e Q q =>
  h H1 e _ fun l H2 hl e2 h2 => ⟨by simp [sizeLine_eq], fun t ht => q t l _ (fresh_back e2 ht) hl (e2.trans (Ex.new ht)) upd_same (by rw [upd_ne fun z => by rw [z, ht] at h2; cases h2]; exact h2)⟩
theorem ek_tupLN {x : V} {xs : List V} (h : EvL te σ H xs) : EvK (tTup (tCons te (tCons (tC x) tNil))) σ H (fun H1 Q => ∀ t l H2, H1 t = none → H1 l = none → Ex H1 H2 → H2 t = some (.tup [.ref l, x]) → H2 l = some (.lst xs) → Q (.ref t) H2) := fun H1 e Q q =>
  h H1 e _ fun l H2 hl e2 h2 => ⟨by simp [sizeLine_eq], fun t ht => q t l _ (fresh_back e2 ht) hl (e2.trans (Ex.new ht)) upd_same (by rw [upd_ne fun z => by rw [z, ht] at h2; cases h2]; exact h2)⟩
end
def SlowAt (H : Hp) (t l : Addr) (n : Nat) (ws : List Way) (p q : Int) : Prop :=
  (∃ s : List Int, IsStart ws p q s ∧ s.length = n ∧ H t = some (.tup [.non, .ref l]) ∧ H l = some (.lst (intV s))) ∨
  (∃ r : List Nat, IsRing n ws r ∧ (∀ x ∈ r, r.getD 0 0 ≤ x) ∧ p * (r.length : Int) < q * (ringSum ws r : Int) ∧ H t = some (.tup [.ref l, .non]) ∧ H l = some (.lst (natV r)))
theorem SlowAt.ex {H H' : Hp} {t l : Addr} {n : Nat} {ws : List Way} {p q : Int} (e : Ex H H') (h : SlowAt H t l n ws p q) : SlowAt H' t l n ws p q := by
  rcases h with ⟨s, a, b, c, d⟩ | ⟨r, a, b, c, d, f⟩
  · exact .inl ⟨s, a, b, e _ _ c, e _ _ d⟩
  · exact .inr ⟨r, a, b, c, e _ _ d, e _ _ f⟩
def RetSl (n : Nat) (ws : List Way) (p q : Int) (H : Hp) (Q : VK) : Prop := ∀ t l H2, H t = none → H l = none → Ex H H2 → SlowAt H2 t l n ws p q → Q (.ref t) H2
theorem mo_sl {n : Nat} {ws : List Way} {p q : Int} : Mo (RetSl n ws p q) := fun _ _ _ e k t l H3 ht hl e3 h => k t l H3 (fresh_back e ht) (fresh_back e hl) (e.trans e3) h
def sp_slower (C : Addr) : Sp := fun vs H Q _ => ∃ (p : Addr) (n : Nat) (ws : List Way) (num div : Int), vs = [.ref p, .int num, .int div] ∧ WebAt C H p n ws ∧ WebOk n ws ∧ 0 ≤ num ∧ 1 ≤ div ∧ div.natAbs < 2 ^ 200 ∧ RetSl n ws num div H Q
abbrev s_slower : Stmt := (top 15)
abbrev N_slower : List Str := ["web", "number", "divisor", "found", "last", "grown", "walk", "turn", "goal", "meeting"]
theorem sc_slower : FnScope N_slower ["web", "number", "divisor"] (defScope s_slower) := ⟨rfl, rfl, rfl, by decide +kernel, rfl, by decide +kernel, by decide +kernel⟩

theorem ok_slower (T : Txt K mg) : FnOk P w K mg base CX0 4 T.a_slower T.d_slower ["web", "number", "divisor"] (sp_slower T.a_Web) := by
  refine okN T.F_slower sc_slower (fun vs H Q E h => ?_) (fun cdv A outer s H vs Q E HR h => ?_)
  · obtain ⟨p, n, ws, num, div, rfl, _⟩ := h
    rfl
  · obtain ⟨p, n, ws, num, div, rfl, hW, hw, hnum, hdiv, hq, q⟩ := h
    have hW0 := hW
    obtain ⟨dx, lw, li, vw, vi, h1, _⟩ := hW0
    have hn12 := hw.n12
    have hn1 := hw.n1
    refine ⟨_, (pss_cons (ps_if (PW.pt (pw_or (pt_cmpR op_lt (pv 1) pe_int (nomark _)) (pw_or1 (pt_cmpR op_lt (pv 2) pe_int (nomark _)))))
  (pss_one ps_never) pss_nil)
  (pss_cons (ps_set (i := 3) sc_slower.nd rfl (by first | exact Or.inl rfl | exact Or.inr rfl) (pe_call (ok_rounds T) (HR.mono (by decide)) (by rfl) T.g_rounds T.F_rounds.kp T.b_rounds .nil pass0 (pa_cons (pv 0) (pa_cons (pv 1) (pa_cons (pv 2) pa_nil)))))
  (pss_cons (ps_set (i := 4) sc_slower.nd rfl (by first | exact Or.inl rfl | exact Or.inr rfl) (pe_ix ix_list (pv 3) (pe_un un_neg pe_int) (fun _ _ => rfl)))
  (pss_cons (ps_setLc (i := 5) (g := (gName 9)) (tt := (tTest (tOp (rI0 fun i j => .bl (decide (j < i))) (tOp (rIxL K) (tVar 4) (tVar 9)) (tOp (rIxL K) (tOp (rIxL K) (tVar 3) (tUn (rU fun i => .int (-i)) (tC (.int 2)))) (tVar 9))))) (te := (tVar 9)) (own := [("meeting", 9)]) rfl sc_slower.nd rfl rfl (sw_true rfl rfl rfl (by decide +kernel)) (pi_range1 (by rfl) T.n_range (pa_cons (pe_fld (pv 0) rfl) pa_nil)) (blkOk_by (own := [("meeting", 9)]) (N := N_slower) (sc := defScope s_slower) (by decide +kernel)) (fun _ _ _ _ _ => (pg_name (i := 9) sc_slower.nd rfl (by first | exact Or.inl rfl | exact Or.inr rfl))) (fun _ _ _ _ _ => (pts_one (pt_cmpR op_gt (pe_ix ix_list (pv 4) (pv 9) (fun _ _ => rfl)) (pe_ix ix_list (pe_ix ix_list (pv 3) (pe_un un_neg pe_int) (fun _ _ => rfl)) (pv 9) (fun _ _ => rfl)) (nomark _)))) (fun _ _ _ _ _ => (pv 9)))
  (pss_cons (ps_if (pt_cmpR (op_eqD HR.units) (pv 5) (pe_lst pa_nil) (nomark _))
  (pss_one (ps_ret (pe_tup (pa_cons pe_non (pa_cons (pe_callTy call_list_of (by rfl) T.n_list (by decide +kernel) (pa_cons (pv 4) pa_nil)) pa_nil))))) pss_nil)
  (pss_cons (ps_set (i := 6) sc_slower.nd rfl (by first | exact Or.inl rfl | exact Or.inr rfl) (pe_lst (pa_cons (pe_ix ix_list (pv 5) pe_int (fun _ _ => rfl)) pa_nil)))
  (pss_cons (ps_for PassesOwn.never rfl (pi_range3 (by rfl) T.n_range (pa_cons (pe_fld (pv 0) rfl) (pa_cons pe_int (pa_cons (pe_un un_neg pe_int) pa_nil)))) (pg_name (i := 7) sc_slower.nd rfl (by first | exact Or.inl rfl | exact Or.inr rfl))
  (pss_cons (ps_set (i := 8) sc_slower.nd rfl (by first | exact Or.inl rfl | exact Or.inr rfl) (pe_ix ix_list (pe_ix ix_list (pv 3) (pv 7) (fun _ _ => rfl)) (pe_ix ix_list (pv 6) (pe_un un_neg pe_int) (fun _ _ => rfl)) (fun _ _ => rfl)))
  (pss_one (ps_expr (pe_bm PySem.F.plainAttrs_list PySem.F.slot_list_append PySem.F.type_list_append mt_append (pv 6) (pa_cons (pe_call (ok_step_back T) (HR.mono (by decide)) (by rfl) T.g_step_back T.F_step_back.kp T.b_step_back .nil pass0 (pa_cons (pv 0) (pa_cons (pv 1) (pa_cons (pv 2) (pa_cons (pe_ix ix_list (pv 3) (pe_op op_sub (pv 7) pe_int) (fun _ _ => rfl)) (pa_cons (pe_ix ix_list (pv 6) (pe_un un_neg pe_int) (fun _ _ => rfl)) (pa_cons (pv 8) pa_nil))))))) pa_nil))))))
  (pss_one (ps_ret (pe_tup (pa_cons (pe_call (ok_ring_of T) (HR.mono (by decide)) (by rfl) T.g_ring_of T.F_ring_of.kp T.b_ring_of .nil pass0 (pa_cons (pv 6) pa_nil)) (pa_cons pe_non pa_nil)))))))))))), ?_⟩
    refine q_when (b := false) (et_or (a := false) (et_is (et_test (ev_op (ev_var rfl) ev_c rv_I0)) (decide_eq_false (by omega))) fun _ => et_is (et_test (ev_op (ev_var rfl) ev_c rv_I0)) (decide_eq_false (by omega))) (fun z => by cases z) fun _ H1 e1 => ?_
    refine q_asgK (EvA.toCall (mo_os (n := n + 1) (o := fun i => HO.lst (intV (gG n ws num div i)))) (ea_cons (ev_var rfl) (ea_cons (ev_var rfl) (ea_cons (ev_var rfl) ea_nil))) fun H2 e2 Q E k => ⟨p, n, ws, num, div, rfl, hW.ex (e1.trans e2), hw, hq, k⟩) fun l H2 ps hl e2 h2 hN => ?_
    have e02 := e1.trans e2
    have psl : ps.length = n + 1 := hN.len
    have at_ : ∀ i, i < n + 1 → ∃ a, ps[i]? = some a ∧ H2 a = some (.lst (intV (gG n ws num div i))) := fun i hi => by
      refine ⟨ps[i]'(by omega), List.getElem?_eq_getElem _, hN.at_ i _ (List.getElem?_eq_getElem _)⟩
    obtain ⟨la, hla, hLa⟩ := at_ n (by omega)
    obtain ⟨pa, hpa, hPa⟩ := at_ (n - 1) (by omega)
    have mapat : ∀ {i : Nat} {a : Addr}, ps[i]? = some a → (ps.map V.ref)[i]? = some (V.ref a) := fun {i a} h => by
      rw [List.getElem?_map, h]
      rfl
    refine q_asg (v := V.ref la) (ev_op (ev_var rfl) (ev_un ev_c ru_neg) (rv_ixL (sq_of h2) (at_last (by rw [List.length_map, psl, Nat.add_sub_cancel]; exact mapat hla)))) fun H3 e3 => ?_
    have e23 := e3
    let gr : List Nat := (List.range n).filter fun m => decide ((gG n ws num div (n - 1)).getD m 0 < (gG n ws num div n).getD m 0)
    refine q_asgL (xs := natV gr) ?_ fun lg H4 hlg e4 h4 => ?_
    · have r := el_lcR1 (σ := [some (.ref p), some (.int num), some (.int div), some (.ref l), some (.ref la), none, none, none, none, none]) (H := H3) (ta := tCons (tFld K (tVar 0) "many") tNil) (t := tTest (tOp (rI0 fun i j => V.bl (decide (j < i))) (tOp (rIxL K) (tVar 4) (tVar 9)) (tOp (rIxL K) (tOp (rIxL K) (tVar 3) (tUn (rU fun i => V.int (-i)) (tC (V.int 2)))) (tVar 9)))) (te := tVar 9) (j := 9) (vs := [9])
        (n := (n : Int)) (fun m => decide ((gG n ws num div (n - 1)).getD m 0 < (gG n ws num div n).getD m 0)) (fun m => .int (m : Int)) (ea_cons (ev_fld (ev_var rfl) ((e02.trans e3) _ _ h1) T.cl_Web T.na_many (webF_many n lw li)) ea_nil) ⟨by omega, by omega⟩ (fun x => rfl)
        (fun i H5 e5 hi => by
          have hi2 : i < n := by omega
          exact et_test (ev_op (ev_op (ev_var rfl) (ev_var rfl) (rv_ixL (sq_of ((e3.trans e5) _ _ hLa)) (at_nat (intV_at (by rw [gG_len]; exact hi2))))) (ev_op (ev_op (ev_var rfl) (ev_un ev_c ru_neg) (rv_ixL (sq_of ((e3.trans e5) _ _ h2)) (at_neg (k := 2) (v := .ref pa) (by rw [List.length_map, psl, show n + 1 - 2 = n - 1 by omega]; exact mapat hpa) (by omega) rfl (by rw [List.length_map]; omega)))) (ev_var rfl)
            (rv_ixL (sq_of ((e3.trans e5) _ _ hPa)) (at_nat (intV_at (by rw [gG_len]; exact hi2))))) rv_I0))
        (fun i H5 e5 hi _ => ev_var rfl)
      exact r
    have h4' : H4 lg = some (.lst ((gr.map fun (m : Nat) => (m : Int)).map V.int)) := by
      rw [← natV_int]
      exact h4
    refine q_when (b := decide (gr = [])) (et_is (et_test (ev_eqNil (ev_var rfl) h4')) (decide_eq_decide.mpr List.map_eq_nil_iff)) (fun hb H5 e5 => ?_) (fun hb H5 e5 => ?_)
    · have hb := of_decide_eq_true hb
      have e35 := e4.trans e5
      refine s_retK (ek_tupNL (el_list (ev_var rfl) (sq_of (e35 _ _ (e3 _ _ hLa))))) fun t l2 H6 ht hl2 e6 h6 h6l => ?_
      have e05 := (e02.trans e3).trans e35
      refine q t l2 H6 (fresh_back e05 ht) (fresh_back e05 hl2) (e05.trans e6) (.inl ⟨gG n ws num div n, slower_start hn1 (fun w hmem => hw.ends w hmem) (fun m hm hlt => ?_), gG_len _ _ _ _ _, h6, h6l⟩)
      have : m ∈ gr := List.mem_filter.mpr ⟨List.mem_range.mpr hm, decide_eq_true hlt⟩
      rw [hb] at this
      cases this
    have hgr : gr ≠ [] := of_decide_eq_false hb
    obtain ⟨m0, gr', egr⟩ := List.exists_cons_of_ne_nil hgr
    have hm0 : m0 ∈ gr := by rw [egr]; exact List.mem_cons_self
    obtain ⟨hm0a, hm0b⟩ := List.mem_filter.mp hm0
    have hm0n := List.mem_range.mp hm0a
    have hm0g := of_decide_eq_true hm0b
    have e25 := (e3.trans e4).trans e5
    have e05 := e02.trans e25
    refine q_asgL (xs := natV [m0]) (el_lst (ea_cons (ev_op (ev_var rfl) ev_c (rv_ixL (sq_of (e5 _ _ h4)) (at_nat (j := 0) (natV_at (i := 0) (m := m0) (by rw [egr]; rfl)) rfl))) ea_nil) (by show 1 ≤ 100000; decide)) fun l6 H6 hl6 e6 h6 => ?_
    have hl60 : H l6 = none := fresh_back e05 hl6
    refine q_forD (n := n) (ea_cons (ev_fld (ev_var rfl) ((e05.trans e6) _ _ h1) T.cl_Web T.na_many (webF_many n lw li)) (ea_cons ev_c (ea_cons (ev_un ev_c ru_neg) ea_nil))) (by omega)
      (fun i σ' H' => ∃ r7 r8 : Option V, σ' = [some (.ref p), some (.int num), some (.int div), some (.ref l), some (.ref la), some (.ref lg), some (.ref l6), r7, r8, none] ∧ H' l6 = some (.lst (natV ((List.range (i + 1)).map (nd n ws num div m0)))) ∧ Ex H5 H')
      (fun H7 e7 => ⟨none, none, rfl, e7 _ _ h6, e6.trans e7⟩) ?_ ?_
    · rintro i σ' H' hi ⟨r7, r8, rfl, hw6, e7⟩
      have e27 := e25.trans e7
      have e07 := e05.trans e7
      obtain ⟨ga, hga, hGa⟩ := at_ (n - i) (by omega)
      obtain ⟨gb, hgb, hGb⟩ := at_ (n - i - 1) (by omega)
      have hlt := nd_lt (p := num) (q := div) hw hm0n i
      have hlast : ∀ (H8 : Hp), (natV ((List.range (i + 1)).map (nd n ws num div m0)))[(natV ((List.range (i + 1)).map (nd n ws num div m0))).length - 1]? = some (.int ((nd n ws num div m0 i : Nat) : Int)) := fun _ => by
        refine natV_at ?_
        rw [natV_len, List.length_map, List.length_range, Nat.add_sub_cancel, List.getElem?_map, List.getElem?_range (by omega)]
        rfl
      refine q_asg (v := .int ((gG n ws num div (n - i)).getD (nd n ws num div m0 i) 0)) (ev_op (ev_op (ev_var rfl) (ev_var rfl) (rv_ixL (sq_of (e27 _ _ h2)) (at_nat (mapat hga)))) (ev_op (ev_var rfl) (ev_un ev_c ru_neg) (rv_ixL (sq_of hw6) (at_last (hlast H')))) (rv_ixL (sq_of (e27 _ _ hGa)) (at_nat (intV_at (by rw [gG_len]; exact hlt))))) fun H8 e8 => ?_
      have e28 := e27.trans e8
      refine s_app (l := l6) (e8 _ _ hw6) (ev_var rfl) (v := .int ((nd n ws num div m0 (i + 1) : Nat) : Int)) (ev_callV (vs := [.ref p, .int num, .int div, .ref gb, .int ((nd n ws num div m0 i : Nat) : Int), .int ((gG n ws num div (n - i)).getD (nd n ws num div m0 i) 0)]) (ea_cons (ev_var rfl) (ea_cons (ev_var rfl) (ea_cons (ev_var rfl) (ea_cons
          (ev_op (ev_var rfl) (ev_op (ev_var rfl) ev_c rv_I0) (rv_ixL (sq_of (e28 _ _ h2)) (at_nat (j := n - i - 1) (mapat hgb) (by omega)))) (ea_cons (ev_op (ev_var rfl) (ev_un ev_c ru_neg) (rv_ixL (sq_of (e8 _ _ hw6)) (at_last (hlast H')))) (ea_cons (ev_var rfl) ea_nil)))))) fun H9 e9 Q E k =>
          ⟨p, gb, n, ws, num, div, gG n ws num div (n - i - 1), nd n ws num div m0 i, (gG n ws num div (n - i)).getD (nd n ws num div m0 i) 0, rfl, hW.ex ((e07.trans e8).trans e9), hw, (e28.trans e9) _ _ hGb, gG_len _ _ _ _ _, hlt, hq, k⟩) (by rw [natV_len, List.length_map, List.length_range]; omega) fun H9 e9 => ?_
      refine ⟨_, _, rfl, ?_, Ex.mut ((e7.trans e8).trans e9) hl6⟩
      rw [upd_same, range_snoc _ (i + 1), natV_app]
      rfl
    · rintro σ' H' ⟨r7, r8, rfl, hw6, e7⟩
      obtain ⟨k1, k2, k3⟩ := slower_ring (ws := ws) (p := num) (q := div) hw (by omega) hm0n hm0g
      refine s_retK (ek_tupLN (el_callL (ea_cons (ev_var rfl) ea_nil) fun H8 e8 Q E k => ⟨l6, backWalk n ws num div m0, rfl, e8 _ _ hw6, by unfold backWalk; rw [List.length_map, List.length_range]; omega, cut_ne k1.ne, k⟩)) fun t l2 H9 ht hl2 e9 h9 h9l => ?_
      have e07 := e05.trans e7
      exact q t l2 H9 (fresh_back e07 ht) (fresh_back e07 hl2) (e07.trans e9) (.inr ⟨_, k1, k2, k3, h9, h9l⟩)
theorem q_asgT2 {K : PySem.W.Frag} {σ : L2.St} {H : Hp} {te : TE} {D : Ends} {tz : TS} {i j : Nat} {a b : V} (h : EvU te σ H [a, b]) (k : ∀ H1, Ex H H1 → tz D ((σ.set i (some a)).set j (some b)) H1) : tSeq (tAsg te (gTup K 2 (gCons (gName i) (gCons (gName j) gNil)))) tz D σ H :=
  h H (Ex.refl H) _ fun p H1 hp e h1 => g_tup2 h1 (k H1 e)
def gcdR (ws : List Way) (r : List Nat) : Nat := Nat.gcd (ringSum ws r) r.length
def pnum (ws : List Way) (r : List Nat) : Nat := ringSum ws r / gcdR ws r
def pdiv (ws : List Way) (r : List Nat) : Nat := r.length / gcdR ws r
theorem gcdR_pos {n : Nat} {ws : List Way} {r : List Nat} (h : IsRing n ws r) : 0 < gcdR ws r := Nat.gcd_pos_of_pos_right _ h.len.2
theorem pnum_mul (ws : List Way) (r : List Nat) : pnum ws r * gcdR ws r = ringSum ws r := Nat.div_mul_cancel (Nat.gcd_dvd_left _ _)
theorem pdiv_mul (ws : List Way) (r : List Nat) : pdiv ws r * gcdR ws r = r.length := Nat.div_mul_cancel (Nat.gcd_dvd_right _ _)
theorem pdiv_pos {n : Nat} {ws : List Way} {r : List Nat} (h : IsRing n ws r) : 1 ≤ pdiv ws r := by
  have h1 := pdiv_mul ws r
  have h2 := h.len.2
  rcases Nat.eq_zero_or_pos (pdiv ws r) with z | z
  · rw [z, Nat.zero_mul] at h1
    omega
  · exact z
theorem pdiv_le {n : Nat} {ws : List Way} {r : List Nat} (h : IsRing n ws r) : pdiv ws r ≤ n := Nat.le_trans (Nat.div_le_self _ _) h.len.1
theorem pcop {n : Nat} {ws : List Way} {r : List Nat} (h : IsRing n ws r) : Nat.gcd (pnum ws r) (pdiv ws r) = 1 := Nat.coprime_div_gcd_div_gcd (gcdR_pos h)
/-- one ring's mean against another's -/
theorem mean_lt {n : Nat} {ws : List Way} {r r' : List Nat} (hr : IsRing n ws r) (h : (pnum ws r : Int) * (r'.length : Int) < (pdiv ws r : Int) * (ringSum ws r' : Int)) : ringSum ws r * r'.length < r.length * ringSum ws r' := by
  have h1 : pnum ws r * r'.length < pdiv ws r * ringSum ws r' := by
    rw [← Int.natCast_mul, ← Int.natCast_mul] at h
    omega
  have h2 := Nat.mul_lt_mul_of_pos_right h1 (gcdR_pos hr)
  have e1 : pnum ws r * r'.length * gcdR ws r = ringSum ws r * r'.length := by rw [Nat.mul_right_comm, pnum_mul]
  have e2 : pdiv ws r * ringSum ws r' * gcdR ws r = r.length * ringSum ws r' := by rw [Nat.mul_right_comm, pdiv_mul]
  rw [e1, e2] at h2
  exact h2
def keyR (ws : List Way) (r : List Nat) : Nat := 27720 * ringSum ws r / r.length
theorem key_lt {n : Nat} {ws : List Way} {r r' : List Nat} (hn : n ≤ 12) (hr : IsRing n ws r) (hr' : IsRing n ws r') (h : ringSum ws r * r'.length < r.length * ringSum ws r') : keyR ws r < keyR ws r' := by
  have l1 := hr.len
  have l2 := hr'.len
  unfold keyR
  generalize ringSum ws r = S at h
  generalize ringSum ws r' = S' at h
  generalize r.length = L at h l1
  generalize r'.length = L' at h l2
  have hk : (27720 * S / L) * L ≤ 27720 * S := Nat.div_mul_le_self _ _
  generalize 27720 * S / L = k at hk
  have hLL : L * L' ≤ 12 * 12 := Nat.mul_le_mul (by omega) (by omega)
  show k + 1 ≤ 27720 * S' / L'
  rw [Nat.le_div_iff_mul_le l2.2]
  have h1 : k * L * L' ≤ 27720 * S * L' := Nat.mul_le_mul_right _ hk
  have h2 : 27720 * (S * L' + 1) ≤ 27720 * (L * S') := Nat.mul_le_mul_left _ h
  have e1 : (k + 1) * L' * L = k * L * L' + L * L' := by
    rw [Nat.add_mul, Nat.add_mul, Nat.one_mul, Nat.mul_right_comm, Nat.mul_comm L' L]
  have e2 : 27720 * S' * L = 27720 * (L * S') := by rw [Nat.mul_assoc, Nat.mul_comm S' L]
  have e3 : 27720 * S * L' = 27720 * (S * L') := Nat.mul_assoc _ _ _
  have h3 : (k + 1) * L' * L ≤ 27720 * S' * L := by
    rw [e1, e2]
    rw [e3] at h1
    omega
  exact Nat.le_of_mul_le_mul_right h3 l1.2
theorem key_le {n : Nat} {ws : List Way} {r : List Nat} (hw : WebOk n ws) (hr : IsRing n ws r) : keyR ws r ≤ 27720 * 9999 := by
  have h := hr.sum_le hw
  unfold keyR
  have : 27720 * ringSum ws r ≤ 27720 * 9999 * r.length := by
    rw [Nat.mul_assoc]
    exact Nat.mul_le_mul_left _ h
  refine Nat.div_le_of_le_mul ?_
  rw [Nat.mul_comm r.length]
  exact this
def PaceAt (H : Hp) (t lr ls : Addr) (n : Nat) (ws : List Way) : Prop := ∃ (r : List Nat) (s : List Int), IsRing n ws r ∧ (∀ x ∈ r, r.getD 0 0 ≤ x) ∧ IsStart ws (pnum ws r) (pdiv ws r) s ∧ s.length = n ∧
  H t = some (.tup [.int (pnum ws r : Int), .int (pdiv ws r : Int), .ref lr, .ref ls]) ∧ H lr = some (.lst (natV r)) ∧ H ls = some (.lst (intV s))
theorem PaceAt.ex {H H' : Hp} {t lr ls : Addr} {n : Nat} {ws : List Way} (e : Ex H H') (h : PaceAt H t lr ls n ws) : PaceAt H' t lr ls n ws := by
  obtain ⟨r, s, a, b, c, d, f, g, i⟩ := h
  exact ⟨r, s, a, b, c, d, e _ _ f, e _ _ g, e _ _ i⟩
def RetP (n : Nat) (ws : List Way) (H : Hp) (Q : VK) : Prop := ∀ t lr ls H2, H t = none → H lr = none → H ls = none → Ex H H2 → PaceAt H2 t lr ls n ws → Q (.ref t) H2
theorem mo_p {n : Nat} {ws : List Way} : Mo (RetP n ws) := fun _ _ _ e k t lr ls H3 ht h1 h2 e3 h => k t lr ls H3 (fresh_back e ht) (fresh_back e h1) (fresh_back e h2) (e.trans e3) h
def sp_pace (C : Addr) : Sp := fun vs H Q _ => ∃ (p : Addr) (n : Nat) (ws : List Way), vs = [.ref p] ∧ WebAt C H p n ws ∧ WebOk n ws ∧ RetP n ws H Q
abbrev s_pace : Stmt := (top 17)
abbrev N_pace : List Str := ["web", "ring", "number", "divisor", "found"]
theorem sc_pace : FnScope N_pace ["web"] (defScope s_pace) := ⟨rfl, rfl, rfl, by decide +kernel, rfl, by decide +kernel, by decide +kernel⟩

theorem ok_pace (T : Txt K mg) : FnOk P w K mg base CX0 5 T.a_pace T.d_pace ["web"] (sp_pace T.a_Web) := by
  refine okN T.F_pace sc_pace (fun vs H Q E h => ?_) (fun cdv A outer s H vs Q E HR h => ?_)
  · obtain ⟨p, n, ws, rfl, _⟩ := h
    rfl
  · obtain ⟨p, n, ws, rfl, hW, hw, q⟩ := h
    have hn12 := hw.n12
    obtain ⟨hf1, hf2⟩ := fring_ok hw
    refine ⟨_, (pss_cons (ps_set (i := 1) sc_pace.nd rfl (by first | exact Or.inl rfl | exact Or.inr rfl) (pe_call (ok_first_ring T) (HR.mono (by decide)) (by rfl) T.g_first_ring T.F_first_ring.kp T.b_first_ring .nil pass0 (pa_cons (pv 0) pa_nil)))
  (pss_one (ps_while PassesOwn.never (pt_val pe_bl)
  (pss_cons (ps_asg (pe_call (ok_mean T) (HR.mono (by decide)) (by rfl) T.g_mean T.F_mean.kp T.b_mean .nil pass0 (pa_cons (pv 0) (pa_cons (pv 1) pa_nil))) (pg_tup rfl (pgs_cons (pg_name (i := 2) sc_pace.nd rfl (by first | exact Or.inl rfl | exact Or.inr rfl)) (pgs_cons (pg_name (i := 3) sc_pace.nd rfl (by first | exact Or.inl rfl | exact Or.inr rfl)) pgs_nil))))
  (pss_cons (ps_set (i := 4) sc_pace.nd rfl (by first | exact Or.inl rfl | exact Or.inr rfl) (pe_call (ok_slower T) (HR.mono (by decide)) (by rfl) T.g_slower T.F_slower.kp T.b_slower .nil pass0 (pa_cons (pv 0) (pa_cons (pv 2) (pa_cons (pv 3) pa_nil)))))
  (pss_cons (ps_if (pt_cmpR op_isN1 (pe_ix ix_tup (pv 4) pe_int (fun _ _ => rfl)) pe_non (nomark _))
  (pss_one (ps_ret (pe_tup (pa_cons (pv 2) (pa_cons (pv 3) (pa_cons (pv 1) (pa_cons (pe_ix ix_tup (pv 4) pe_int (fun _ _ => rfl)) pa_nil))))))) pss_nil)
  (pss_one (ps_set (i := 1) sc_pace.nd rfl (by first | exact Or.inl rfl | exact Or.inr rfl) (pe_ix ix_tup (pv 4) pe_int (fun _ _ => rfl)))))))))), ?_⟩
    refine q_asgK (EvA.toCall (mo_l (xs := natV (fring n ws))) (ea_cons (ev_var rfl) ea_nil) fun H2 e2 Q E k => ⟨p, n, ws, rfl, hW.ex e2, hw, k⟩) fun l0 H1 hl0 e1 h1 => ?_
    refine s_while (fun m σ' H' => ∃ (lr : Addr) (r : List Nat) (r2 r3 r4 : Option V), σ' = [some (.ref p), some (.ref lr), r2, r3, r4] ∧ IsRing n ws r ∧ (∀ x ∈ r, r.getD 0 0 ≤ x) ∧ H' lr = some (.lst (natV r)) ∧ H lr = none ∧ Ex H H' ∧ m = 27720 * 9999 - keyR ws r) (27720 * 9999 - keyR ws (fring n ws))
      ⟨l0, fring n ws, none, none, none, rfl, hf1, hf2, h1, hl0, e1, rfl⟩ ?_
    rintro m σ' H' ⟨lr, r, r2, r3, r4, rfl, hr, hle, hlr, hfr, e, rfl⟩
    refine ⟨true, et_B ev_c, fun _ H2 e2 => ?_, fun z => by cases z⟩
    have e02 := e.trans e2
    have hd1 := pdiv_pos hr
    have hdn := pdiv_le hr
    refine ⟨fun σ' H' => ∃ (lr' : Addr) (r' : List Nat) (r2 r3 r4 : Option V), σ' = [some (.ref p), some (.ref lr'), r2, r3, r4] ∧ IsRing n ws r' ∧ (∀ x ∈ r', r'.getD 0 0 ≤ x) ∧ H' lr' = some (.lst (natV r')) ∧ H lr' = none ∧ Ex H H' ∧ keyR ws r < keyR ws r', ?_, ?_⟩
    · rintro σ2 H3 ⟨lr', r', r2, r3, r4, rfl, a1, a2, a3, a4, a5, a6⟩
      have := key_le hw a1
      exact ⟨27720 * 9999 - keyR ws r', by omega, lr', r', r2, r3, r4, rfl, a1, a2, a3, a4, a5, rfl⟩
    · refine q_asgT2 (K := K) (a := .int (pnum ws r : Int)) (b := .int (pdiv ws r : Int)) (eu_callU (ea_cons (ev_var rfl) (ea_cons (ev_var rfl) ea_nil)) fun H3 e3 Q E k => ⟨p, lr, n, ws, r, rfl, hW.ex (e02.trans e3), hw, e3 _ _ (e2 _ _ hlr), hr, k⟩) fun H3 e3 => ?_
      have e03 := e02.trans e3
      refine q_asgK (EvA.toCall (mo_sl (n := n) (ws := ws) (p := (pnum ws r : Int)) (q := (pdiv ws r : Int))) (ea_cons (ev_var rfl) (ea_cons (ev_var rfl) (ea_cons (ev_var rfl) ea_nil))) fun H4 e4 Q E k => ⟨p, n, ws, _, _, rfl, hW.ex (e03.trans e4), hw, by omega, by omega, by
        rw [Int.natAbs_natCast]
        have : (12 : Nat) < 2 ^ 200 := by decide
        omega, k⟩) fun t l H4 ht hl e4 hS => ?_
      have e04 := e03.trans e4
      have hlr4 := (e3.trans e4) _ _ (e2 _ _ hlr)
      have ht0 := fresh_back e03 ht
      have hl0 := fresh_back e03 hl
      rcases hS with ⟨st, s1, s2, s3, s4⟩ | ⟨r', s1, s2, s3, s4, s5⟩
      · refine q_when (b := true) (et_is (et_test (ev_op (ev_op (ev_var rfl) ev_c (rv_ixT (st_of s3) rfl)) ev_c rv_isN)) rfl) (fun _ H5 e5 => ?_) (fun z => by cases z)
        refine s_retU (eu_tup (ea_cons (ev_var rfl) (ea_cons (ev_var rfl) (ea_cons (ev_var rfl) (ea_cons (ev_op (ev_var rfl) ev_c (rv_ixT (st_of (e5 _ _ s3)) rfl)) ea_nil)))) (by show 4 ≤ 100000; decide)) fun t2 H6 ht2 e6 h6 => ?_
        have e56 := e5.trans e6
        exact q t2 lr l H6 (fresh_back (e04.trans e5) ht2) hfr hl0 (e04.trans e56) ⟨r, st, hr, hle, s1, s2, h6, e56 _ _ hlr4, e56 _ _ s4⟩
      · refine q_when (b := false) (et_is (et_test (ev_op (ev_op (ev_var rfl) ev_c (rv_ixT (st_of s4) rfl)) ev_c rv_isN)) rfl) (fun z => by cases z) (fun _ H5 e5 => ?_)
        refine s_asg (ev_op (ev_var rfl) ev_c (rv_ixT (st_of (e5 _ _ s4)) rfl)) fun H6 e6 => ?_
        have e56 := e5.trans e6
        exact ⟨l, r', _, _, _, rfl, s1, s2, e56 _ _ s5, hl0, e04.trans e56, key_lt hn12 hr s1 (mean_lt hr s3)⟩
/-! ### settling.py -/
section
variable {K : PySem.W.Frag} {σ : L2.St} {H : Hp} {ta td ty : TE}
theorem eu_tupleW {xs : List V} (ha : EvS K ta σ H xs) : EvU (tCB (fun (vs : List V) (H : Hp) (Q : VK) => ∃ (p : Addr) (ys : List V), vs = [.ref p] ∧ ((SqL K H p ys ∧ ∀ l, H l = none → Q (.ref l) (upd H l (.tup ys))) ∨ SqT K H p ys ∧ Q (.ref p) H)) (tCons ta tNil)) σ H xs := fun H1 e Q q =>
  ha H1 e _ fun a H2 e2 h2 => ⟨a, xs, rfl, .inl ⟨h2, fun l hl => q l _ (fresh_back e2 hl) (e2.trans (Ex.new hl)) upd_same⟩⟩
theorem et_din {d b : Addr} {kvs : List (List Key × V)} {k : List Key} (hy : Ev ty σ H (.ref b)) (hd : Ev td σ H (.ref d)) (e : H d = some (.dT kvs)) (eb : H b = some (.tup (k.map kV))) : EvT (tB (tDIn ty td)) σ H (valV kvs k).isSome := fun H1 e1 Q q =>
  hy H1 e1 _ fun H2 e2 => hd H2 (e1.trans e2) _ fun H3 e3 => ⟨d, valV kvs k, rfl, DGet.t (e3 _ _ (e2 _ _ (e1 _ _ e))) (e3 _ _ (e2 _ _ (e1 _ _ eb))), _, rfl, q H3 (e2.trans e3)⟩
theorem ev_dget {d b : Addr} {kvs : List (List Key × V)} {k : List Key} {v : V} (hd : Ev td σ H (.ref d)) (hy : Ev ty σ H (.ref b)) (e : H d = some (.dT kvs)) (eb : H b = some (.tup (k.map kV))) (hv : valV kvs k = some v) : Ev (tDGet td ty) σ H v := fun H1 e1 Q q =>
  hd H1 e1 _ fun H2 e2 => hy H2 (e1.trans e2) _ fun H3 e3 => ⟨d, v, rfl, by
    have g := DGet.t (H := H3) (a := d) (b := b) (kvs := kvs) (k := k) (e3 _ _ (e2 _ _ (e1 _ _ e))) (e3 _ _ (e2 _ _ (e1 _ _ eb)))
    rw [hv] at g
    exact g, q H3 (e2.trans e3)⟩
end
theorem ek_disp1T {σ : L2.St} {H : Hp} {tk tv : TE} {k : List Key} {v : V} (hk : EvU tk σ H (k.map kV)) (hv : Ev tv σ H v) : EvK (tDisp1T tk tv) σ H (RetO (.dT [(k, v)])) := fun H1 e Q q p hp => by
  have e1 : Ex H1 (upd H1 p (.dT [])) := Ex.new hp
  refine hk _ (e.trans e1) _ fun b H2 hb e2 h2 => hv H2 ((e.trans e1).trans e2) _ fun H3 e3 => ?_
  exact ⟨e3 _ _ (e2 _ _ upd_same), b, k, rfl, e3 _ _ h2, q p _ hp (Ex.mut ((e1.trans e2).trans e3) hp) upd_same⟩
/-- d[t] = v of a tuple t -/
theorem s_dput {σ : L2.St} {H : Hp} {D : Ends} {td ty tv : TE} {d b : Addr} {kvs : List (List Key × V)} {k : List Key} {v : V} (hv : Ev tv σ H v) (hd : Ev td σ H (.ref d)) (hy : Ev ty σ H (.ref b)) (e : H d = some (.dT kvs)) (eb : H b = some (.tup (k.map kV))) (hl : kvs.length < 10000)
    (q : ∀ H1, Ex H H1 → D.nx σ (upd H1 d (.dT (putK kvs k v)))) : sDPut td ty tv D σ H :=
  hv H (Ex.refl H) _ fun H1 e1 => hd H1 e1 _ fun H2 e2 => hy H2 (e1.trans e2) _ fun H3 e3 => by
    have e13 := (e1.trans e2).trans e3
    exact ⟨d, _, rfl, DPut.t (e13 _ _ e) (e13 _ _ eb) (by rw [sizeLine_eq]; omega), q H3 e13⟩
def shapeT (ts : List Int) : List Int := ts.map fun x => x - ts.getD 0 0
def sp_shape : Sp := fun vs H Q _ => ∃ (a : Addr) (ts : List Int), vs = [.ref a] ∧ H a = some (.lst (intV ts)) ∧ ts ≠ [] ∧ ts.length ≤ 100 ∧ RetU (intV (shapeT ts)) H Q
abbrev s_shape : Stmt := (top 19)
abbrev N_shape : List Str := ["times", "time"]
theorem sc_shape : FnScope N_shape ["times"] (defScope s_shape) := ⟨rfl, rfl, rfl, by decide +kernel, rfl, by decide +kernel, by decide +kernel⟩

theorem ok_shape (T : Txt K mg) : FnOk P w K mg base CX0 1 T.a_shape T.d_shape ["times"] sp_shape := by
  refine okN T.F_shape sc_shape (fun vs H Q E h => ?_) (fun cdv A outer s H vs Q E HR h => ?_)
  · obtain ⟨a, ts, rfl, _⟩ := h
    rfl
  · obtain ⟨a, ts, rfl, ha, hne, hl, q⟩ := h
    have hlen := List.length_pos_iff.mpr hne
    refine ⟨_, (pss_one (ps_ret (pe_callTy call_tuple_of (by rfl) T.n_tuple (by decide +kernel) (pa_cons (pe_lc (g := (gName 1)) (tt := tYes) (te := (tOp (rI0 fun i j => .int (i - j)) (tVar 1) (tOp (rIxL K) (tVar 0) (tC (.int 0))))) (own := [("time", 1)]) rfl sc_shape.nd (pi_list (pv 0)) (blkOk_by (own := [("time", 1)]) (N := N_shape) (sc := defScope s_shape) (by decide +kernel)) (fun _ _ _ _ _ => (pg_name (i := 1) sc_shape.nd rfl (by first | exact Or.inl rfl | exact Or.inr rfl))) (fun _ _ _ _ _ => pts_nil) (fun _ _ _ _ _ => (pe_op op_sub (pv 1) (pe_ix ix_list (pv 0) pe_int (fun _ _ => rfl))))) pa_nil)))), ?_⟩
    refine s_retU (xs := intV (shapeT ts)) (eu_tupleW (es_new ?_)) q
    have r := el_lcL (K := K) (σ := [some (.ref a), none]) (H := H) (a := a) (xs := intV ts) (tl := tVar 0) (j := 1) (vs := [1]) (t := tYes) (te := tOp (rI0 fun i j => V.int (i - j)) (tVar 1) (tOp (rIxL K) (tVar 0) (tC (.int 0)))) (fun _ => true) (fun i => .int (ts.getD i 0 - ts.getD 0 0)) (ev_var rfl) (sq_of ha) (by rw [intV_len]; omega) (fun x => rfl) (fun i x H1 e1 hx => et_true)
      (fun i x H1 e1 hx _ => by
        have hi : i < ts.length := by
          have := (List.getElem?_eq_some_iff.mp hx).1
          rwa [intV_len] at this
        rw [intV_at hi] at hx
        obtain rfl := Option.some.inj hx
        exact ev_op (ev_var rfl) (ev_op (ev_var rfl) ev_c (rv_ixL (sq_of (e1 _ _ ha)) (at_nat (j := 0) (intV_at hlen) rfl))) rv_I0)
    rw [given_all, intV_len, map_getD ts 0 (fun x => V.int (x - ts.getD 0 0))] at r
    have e : intV (shapeT ts) = ts.map (fun x => V.int (x - ts.getD 0 0)) := by
      unfold intV shapeT
      rw [List.map_map]
      rfl
    rw [e]
    exact r
/-- how a search for times that come again ends -/
def StEnd (f : Nat → List Int) (g : Nat → Nat → Int) (most : Nat) (H : Hp) (Q : VK) : Prop := ((∀ t, t ≤ most → ∀ j, j < t → f j ≠ f t) → RetV .non H Q) ∧
  ∀ t j, t ≤ most → j < t → f j = f t → (∀ t', t' < t → ∀ j', j' < t' → f j' ≠ f t') → RetU [.int (j : Int), .int ((t - j : Nat) : Int), .int (g t j)] H Q
def keyT (f : Nat → List Int) (j : Nat) : List Key := (f j).map Sum.inl
theorem keyT_inj {f : Nat → List Int} {i j : Nat} (h : keyT f i = keyT f j) : f i = f j := by
  unfold keyT at h
  exact (List.map_inj_right (fun a b z => Sum.inl.inj z)).mp h
theorem keyT_V (f : Nat → List Int) (j : Nat) : (keyT f j).map kV = intV (f j) := by
  unfold keyT intV
  rw [List.map_map]
  rfl
def metT (f : Nat → List Int) (n : Nat) : List (List Key × V) := (List.range n).map fun j => (keyT f j, V.int (j : Int))
theorem valV_app {k : List Key} : ∀ (xs ys : List (List Key × V)), valV (xs ++ ys) k = (valV xs k).or (valV ys k)
  | [], ys => rfl
  | x :: xs, ys => by
    rw [List.cons_append]
    by_cases e : x.1 = k
    · rw [valV_pos e, valV_pos e]
      rfl
    · rw [valV_neg e, valV_neg e, valV_app xs ys]
theorem metT_none {f : Nat → List Int} {t : Nat} : ∀ n, (∀ j, j < n → f j ≠ f t) → valV (metT f n) (keyT f t) = none
  | 0, _ => rfl
  | n + 1, h => by
    unfold metT
    rw [List.range_succ, List.map_append, valV_app]
    have h1 := metT_none n fun j hj => h j (by omega)
    unfold metT at h1
    rw [h1]
    show valV [(keyT f n, V.int (n : Int))] (keyT f t) = none
    rw [valV_neg fun z => h n (by omega) (keyT_inj z)]
    rfl
theorem metT_some {f : Nat → List Int} {t j : Nat} : ∀ n, j < n → f j = f t → (∀ j', j' < n → f j' = f t → j' = j) → valV (metT f n) (keyT f t) = some (.int (j : Int))
  | 0, h, _, _ => by omega
  | n + 1, h, e, u => by
    unfold metT
    rw [List.range_succ, List.map_append, valV_app]
    by_cases hj : j = n
    · have h1 := metT_none (f := f) (t := t) n fun j' hj' z => by
        have := u j' (by omega) z
        omega
      unfold metT at h1
      rw [h1]
      show valV [(keyT f n, V.int (n : Int))] (keyT f t) = _
      rw [valV_pos (by show keyT f n = keyT f t; unfold keyT; rw [← hj, e]), hj]
    · have h1 := metT_some n (by omega) e fun j' hj' z => u j' (by omega) z
      unfold metT at h1
      rw [h1]
      rfl
def sp_settled (C : Addr) : Sp := fun vs H Q _ => ∃ (p a : Addr) (n most : Nat) (ws : List Way) (ts : List Int), vs = [.ref p, .ref a, .int (most : Int)] ∧ WebAt C H p n ws ∧ WebOk n ws ∧ H a = some (.lst (intV ts)) ∧ ts.length = n ∧ most ≤ 1000 ∧
  StEnd (fun i => shapeT (rowT n ws ts i)) (fun t j => (rowT n ws ts t).getD 0 0 - (rowT n ws ts j).getD 0 0) most H Q
abbrev s_settled : Stmt := (top 20)
abbrev N_settled : List Str := ["web", "times", "most", "rows", "met", "turn", "form", "first"]
theorem sc_settled : FnScope N_settled ["web", "times", "most"] (defScope s_settled) := ⟨rfl, rfl, rfl, by decide +kernel, rfl, by decide +kernel, by decide +kernel⟩

theorem ok_settled (T : Txt K mg) : FnOk P w K mg base CX0 5 T.a_settled T.d_settled ["web", "times", "most"] (sp_settled T.a_Web) := by
  refine okN T.F_settled sc_settled (fun vs H Q E h => ?_) (fun cdv A outer s H vs Q E HR h => ?_)
  · obtain ⟨p, a, n, most, ws, ts, rfl, _⟩ := h
    rfl
  · obtain ⟨p, a, n, most, ws, ts, rfl, hW, hw, ha, htl, hm, q0, q1⟩ := h
    have hn1 := hw.n1
    have hn12 := hw.n12
    have hne : ∀ i, rowT n ws ts i ≠ [] := fun i z => by
      have := rowT_len (n := n) (ws := ws) htl i
      rw [z] at this
      simp at this
      omega
    have hW0 := hW
    obtain ⟨dx, lw, li, vw, vi, h1, _⟩ := hW0
    generalize hf : (fun i => shapeT (rowT n ws ts i)) = f at q0 q1
    have hfi : ∀ i, shapeT (rowT n ws ts i) = f i := fun i => by rw [← hf]
    refine ⟨_, (pss_cons (ps_set (i := 3) sc_settled.nd rfl (by first | exact Or.inl rfl | exact Or.inr rfl) (pe_meth (pv 0) T.cl_Web T.m_Web_turns (ok_Web_turns T) (HR.mono (by decide)) T.b_Web_turns .nil pass0 (pa_cons (pv 1) (pa_cons pe_int pa_nil))))
  (pss_cons (ps_set (i := 4) sc_settled.nd rfl (by first | exact Or.inl rfl | exact Or.inr rfl) (pe_disp1T (hu_of HR) (pe_call (ok_shape T) (HR.mono (by decide)) (by rfl) T.g_shape T.F_shape.kp T.b_shape .nil pass0 (pa_cons (pe_ix ix_list (pv 3) pe_int (fun _ _ => rfl)) pa_nil)) pe_int))
  (pss_cons (ps_for PassesOwn.never rfl (pi_range2 (by rfl) T.n_range (pa_cons pe_int (pa_cons (pe_op op_add (pv 2) pe_int) pa_nil))) (pg_name (i := 5) sc_settled.nd rfl (by first | exact Or.inl rfl | exact Or.inr rfl))
  (pss_cons (ps_expr (pe_bm PySem.F.plainAttrs_list PySem.F.slot_list_append PySem.F.type_list_append mt_append (pv 3) (pa_cons (pe_meth (pv 0) T.cl_Web T.m_Web_ahead (ok_Web_ahead T) (HR.mono (by decide)) T.b_Web_ahead .nil pass0 (pa_cons (pe_ix ix_list (pv 3) (pe_un un_neg pe_int) (fun _ _ => rfl)) pa_nil)) pa_nil)))
  (pss_cons (ps_set (i := 6) sc_settled.nd rfl (by first | exact Or.inl rfl | exact Or.inr rfl) (pe_call (ok_shape T) (HR.mono (by decide)) (by rfl) T.g_shape T.F_shape.kp T.b_shape .nil pass0 (pa_cons (pe_ix ix_list (pv 3) (pe_un un_neg pe_int) (fun _ _ => rfl)) pa_nil)))
  (pss_cons (ps_if (pt_cmp (pc_din (hu_of HR) (pv 6) (pv 4)))
  (pss_cons (ps_set (i := 7) sc_settled.nd rfl (by first | exact Or.inl rfl | exact Or.inr rfl) (pe_dget (hu_of HR) (pv 4) (pv 6) (fun _ _ => rfl)))
  (pss_one (ps_ret (pe_tup (pa_cons (pv 7) (pa_cons (pe_op op_sub (pv 5) (pv 7)) (pa_cons (pe_op op_sub (pe_ix ix_list (pe_ix ix_list (pv 3) (pv 5) (fun _ _ => rfl)) pe_int (fun _ _ => rfl)) (pe_ix ix_list (pe_ix ix_list (pv 3) (pv 7) (fun _ _ => rfl)) pe_int (fun _ _ => rfl))) pa_nil))))))) pss_nil)
  (pss_one (ps_dput (hu_of HR) (pv 4) (pv 6) (pv 5) rfl))))))
  (pss_one (ps_ret pe_non))))), ?_⟩
    refine q_asgK (ek_meth (mo_os (n := 1) (o := fun i => .lst (intV (rowT n ws ts i)))) (ev_var rfl) h1 (turns_no n lw li) (ea_cons (ev_var rfl) (ea_cons ev_c ea_nil)) fun H1 e1 Q E k => ⟨p, a, n, 0, ws, ts, rfl, hW.ex e1, hw, e1 _ _ ha, htl, by omega, k⟩) fun l H1 ps hl e1 h2 hN => ?_
    obtain ⟨a0, rfl⟩ : ∃ a0, ps = [a0] := List.length_eq_one_iff.mp hN.len
    have hA0 := hN.at_ 0 a0 rfl
    have callShape : ∀ {σ : L2.St} {H' : Hp} {te : TE} {x : Addr} {t : Nat}, Ev te σ H' (.ref x) → H' x = some (.lst (intV (rowT n ws ts t))) → EvU (tCall sp_shape [] E0 (tCons te tNil)) σ H' ((keyT f t).map kV) := fun {σ H' te x t} h hx => by
      rw [keyT_V, ← hfi]
      exact eu_callU (ea_cons h ea_nil) fun H1 e1 Q E k => ⟨x, _, rfl, e1 _ _ hx, hne t, by have := rowT_len (n := n) (ws := ws) htl t; omega, k⟩
    refine q_asgK (ek_disp1T (k := keyT f 0) (v := .int 0) (callShape (t := 0) (ev_op (ev_var rfl) ev_c (rv_ixL (sq_of h2) (at_nat (j := 0) (v := .ref a0) rfl rfl))) hA0) ev_c) fun d H2 hd e2 h2d => ?_
    have e02 := e1.trans e2
    refine q_forR2 (lo := 1) (n := ((most + 1 : Nat) : Int)) (ea_cons ev_c (ea_cons (ev_is (ev_op (ev_var rfl) ev_c rv_I0) rfl) ea_nil)) ⟨by omega, by omega, by omega, by omega⟩
      (fun i σ' H' => ∃ (r5 r6 : Option V) (ps : List Addr), σ' = [some (.ref p), some (.ref a), some (.int (most : Int)), some (.ref l), some (.ref d), r5, r6, none] ∧ H' l = some (.lst (ps.map V.ref)) ∧ H' d = some (.dT (metT f (i + 1))) ∧ Ex H H' ∧ NewObjs H H' l (i + 1) (fun i => .lst (intV (rowT n ws ts i))) ps ∧ ∀ t, t ≤ i → ∀ j, j < t → f j ≠ f t)
      (fun H3 e3 => ⟨none, none, [a0], rfl, e3 _ _ (e2 _ _ h2), e3 _ _ h2d, e02.trans e3, hN.mono (e2.trans e3), fun t ht j hj => by omega⟩) ?_ ?_
    · rintro i σ' H' hi ⟨r5, r6, ps, rfl, hl', hd', e, hN, hdis⟩
      have hi2 : i < most := by omega
      have hdH : H d = none := fresh_back e1 hd
      have hdl : d ≠ l := fun z => by rw [z, hl'] at hd'; cases hd'
      obtain ⟨q1a, hq1⟩ : ∃ q1, ps[i]? = some q1 := ⟨ps[i]'(by rw [hN.len]; omega), List.getElem?_eq_getElem _⟩
      have hlast : (ps.map V.ref)[(ps.map V.ref).length - 1]? = some (.ref q1a) := by
        rw [List.length_map, hN.len, List.getElem?_map, Nat.add_sub_cancel, hq1]
        rfl
      refine q_appL (l := l) hl' (ev_var rfl) (ys := intV (stepT n ws (rowT n ws ts i))) (el_ahead (hW.ex e) hw (rowT_len htl i) (ev_var rfl) (ea_cons (ev_op (ev_var rfl) (ev_un ev_c ru_neg) (rv_ixL (sq_of hl') (at_last hlast))) ea_nil) (hN.at_ i q1a hq1)) (by rw [List.length_map, hN.len]; omega) fun q2 H4 hq2 e4 h4 => ?_
      have hN2 := hN.snoc hl' e e4 hq2 h4
      have eX : Ex H (upd H4 l (.lst ((ps ++ [q2]).map V.ref))) := Ex.mut (e.trans e4) hl
      have lX : upd H4 l (.lst ((ps ++ [q2]).map V.ref)) l = some (.lst ((ps ++ [q2]).map V.ref)) := upd_same
      have dX : upd H4 l (.lst ((ps ++ [q2]).map V.ref)) d = some (.dT (metT f (i + 1))) := by
        rw [upd_ne hdl]
        exact e4 _ _ hd'
      have eqH : upd H4 l (.lst (ps.map V.ref ++ [.ref q2])) = upd H4 l (.lst ((ps ++ [q2]).map V.ref)) := by
        rw [List.map_append]
        rfl
      rw [eqH]
      generalize upd H4 l (.lst ((ps ++ [q2]).map V.ref)) = HX at hN2 eX lX dX
      have q2at : (ps ++ [q2])[i + 1]? = some q2 := by
        rw [List.getElem?_append_right (by rw [hN.len]; omega), hN.len, Nat.sub_self]
        rfl
      have hrow : ∀ {j x : Nat}, (ps ++ [q2])[j]? = some x → ((ps ++ [q2]).map V.ref)[j]? = some (.ref x) := fun {j x} h => by
        rw [List.getElem?_map, h]
        rfl
      refine q_asgU (callShape (t := i + 1) (ev_op (ev_var rfl) (ev_un ev_c ru_neg) (rv_ixL (sq_of lX) (at_last (v := .ref q2) (by
        rw [List.length_map, List.length_append, hN.len]
        exact hrow q2at)))) (hN2.at_ _ _ q2at)) fun fo H5 hfo e5 h5 => ?_
      have d5 := e5 _ _ dX
      by_cases hs : ∃ j, j < i + 1 ∧ f j = f (i + 1)
      · obtain ⟨j, hj, hje⟩ := hs
        have uniq : ∀ j', j' < i + 1 → f j' = f (i + 1) → j' = j := fun j' hj' z => by
          rcases Nat.lt_trichotomy j' j with h | h | h
          · exact absurd (z.trans hje.symm) (hdis j (by omega) j' h)
          · exact h
          · exact absurd (hje.trans z.symm) (hdis j' (by omega) j h)
        have hv := metT_some (f := f) (t := i + 1) (i + 1) hj hje uniq
        refine q_when (b := true) (et_is (et_din (ev_var rfl) (ev_var rfl) d5 h5) (by rw [hv]; rfl)) (fun _ H6 e6 => ?_) (fun z => by cases z)
        refine q_asg (ev_dget (ev_var rfl) (ev_var rfl) (e6 _ _ d5) (e6 _ _ h5) hv) fun H7 e7 => ?_
        have eX7 := (e5.trans e6).trans e7
        obtain ⟨xj, hxj⟩ : ∃ xj, (ps ++ [q2])[j]? = some xj := ⟨(ps ++ [q2])[j]'(by rw [hN2.len]; omega), List.getElem?_eq_getElem _⟩
        have l7 := eX7 _ _ lX
        have r0 : ∀ {x t : Nat}, (ps ++ [q2])[t]? = some x → H7 x = some (.lst (intV (rowT n ws ts t))) := fun {x t} h => eX7 _ _ (hN2.at_ _ _ h)
        refine s_retU (xs := [.int (j : Int), .int ((i + 1 - j : Nat) : Int), .int ((rowT n ws ts (i + 1)).getD 0 0 - (rowT n ws ts j).getD 0 0)]) (eu_tup (ea_cons (ev_var rfl) (ea_cons (ev_is (ev_op (ev_var rfl) (ev_var rfl) rv_I0) (by congr 1; omega)) (ea_cons (ev_op (ev_op (ev_op (ev_var rfl) (ev_var rfl) (rv_ixL (sq_of l7) (at_nat (j := i + 1) (hrow q2at) (by omega)))) ev_c (rv_ixL (sq_of (r0 q2at)) (at_nat (j := 0) (intV_at (List.length_pos_iff.mpr (hne _))) rfl)))
          (ev_op (ev_op (ev_var rfl) (ev_var rfl) (rv_ixL (sq_of l7) (at_nat (j := j) (hrow hxj) rfl))) ev_c (rv_ixL (sq_of (r0 hxj)) (at_nat (j := 0) (intV_at (List.length_pos_iff.mpr (hne _))) rfl))) rv_I0) ea_nil))) (by simp)) fun p2 H8 hp2 e8 h8 => ?_
        exact (q1 (i + 1) j (by omega) hj hje (fun t' ht' j' hj' => hdis t' (by omega) j' hj')).go (eX.trans eX7) hp2 e8 h8
      · have hno : ∀ j, j < i + 1 → f j ≠ f (i + 1) := fun j hj z => hs ⟨j, hj, z⟩
        have hv := metT_none (f := f) (t := i + 1) (i + 1) hno
        refine q_when (b := false) (et_is (et_din (ev_var rfl) (ev_var rfl) d5 h5) (by rw [hv]; rfl)) (fun z => by cases z) (fun _ H6 e6 => ?_)
        have eX6 := e5.trans e6
        refine s_dput (v := .int ((i + 1 : Nat) : Int)) (ev_is (ev_var rfl) (by congr 1; omega)) (ev_var rfl) (ev_var rfl) (e6 _ _ d5) (e6 _ _ h5) (by unfold metT; rw [List.length_map, List.length_range]; omega) fun H7 e7 => ?_
        have eX7 := eX6.trans e7
        refine ⟨_, _, ps ++ [q2], rfl, by rw [upd_ne (Ne.symm hdl)]; exact eX7 _ _ lX, ?_, Ex.mut (eX.trans eX7) hdH, ⟨hN2.len, hN2.nd, hN2.out, hN2.fresh, fun t x hx => ?_⟩, fun t ht j hj => ?_⟩
        · rw [upd_same, putK_new _ hv]
          unfold metT
          rw [List.range_succ (n := i + 1), List.map_append]
          rfl
        · have hx2 := eX7 _ _ (hN2.at_ t x hx)
          rw [upd_ne fun z => by rw [z, eX7 _ _ dX] at hx2; cases hx2]
          exact hx2
        · by_cases h : t = i + 1
          · rw [h]
            exact hno j (by omega)
          · exact hdis t (by omega) j hj
    · rintro σ' H' ⟨r5, r6, ps, rfl, hl', hd', e, hN, hdis⟩
      have e1 : (((most + 1 : Nat) : Int) - 1).toNat = most := by omega
      rw [e1] at hdis
      exact s_ret ev_c fun H4 e4 => q0 hdis H4 (e.trans e4)
/-! ### the law's small readers -/
/-- a cell of the script -/
def cell (ns : List Int) (k : Int) : Int := if k < (ns.length : Int) then ns.getD k.toNat 0 else 0
theorem cell_nat (ns : List Int) (k : Nat) : cell ns (k : Int) = ns.getD k 0 := by
  unfold cell
  by_cases h : (k : Int) < (ns.length : Int)
  · rw [if_pos h]
    rfl
  · rw [if_neg h, List.getD_eq_getElem?_getD, List.getElem?_eq_none (by omega)]
    rfl
def sp_law_cell_at (K : PySem.W.Frag) : Sp := fun vs H Q _ => ∃ (a : Addr) (ns : List Int) (k : Int), vs = [.ref a, .int k] ∧ SqL K H a (ns.map V.int) ∧ 0 ≤ k ∧ RetV (.int (cell ns k)) H Q
abbrev s_law_cell_at : Stmt := (top 28)
abbrev N_law_cell_at : List Str := ["_law_script", "_law_k"]
theorem sc_law_cell_at : FnScope N_law_cell_at ["_law_script", "_law_k"] (defScope s_law_cell_at) := ⟨rfl, rfl, rfl, by decide +kernel, rfl, by decide +kernel, by decide +kernel⟩

theorem ok_law_cell_at (T : Txt K mg) : FnOk P w K mg base CX0 1 T.a_law_cell_at T.d_law_cell_at ["_law_script", "_law_k"] (sp_law_cell_at K) := by
  refine okN T.F_law_cell_at sc_law_cell_at (fun vs H Q E h => ?_) (fun cdv A outer s H vs Q E HR h => ?_)
  · obtain ⟨a, ns, k, rfl, _⟩ := h
    rfl
  · obtain ⟨a, ns, k, rfl, hS, h0, q⟩ := h
    refine ⟨_, (pss_cons (ps_if (pt_cmpR op_lt (pv 1) (pe_callB call_len_seq (by rfl) T.n_len boot_len (pa_cons (pv 0) pa_nil)) (nomark _))
  (pss_one (ps_ret (pe_ix ix_list (pv 0) (pv 1) (fun _ _ => rfl)))) pss_nil)
  (pss_one (ps_ret pe_int))), ?_⟩
    refine q_when (et_test (ev_op (ev_var rfl) (ev_len (ev_var rfl) hS) rv_I0)) (fun hb H1 e1 => ?_) (fun hb H1 e1 => ?_)
    · have hk : k < (ns.length : Int) := by simpa using of_decide_eq_true hb
      refine s_ret (v := .int (cell ns k)) (ev_op (ev_var rfl) (ev_var rfl) (rv_ixL (ex_l e1 hS) ?_)) fun H2 e2 => q H2 (e1.trans e2)
      have hj : k.toNat < ns.length := by omega
      refine at_of (j := k.toNat) (by omega) ?_
      unfold cell
      rw [if_pos hk, List.getElem?_map, List.getElem?_eq_getElem hj, List.getD_eq_getElem?_getD, List.getElem?_eq_getElem hj]
      rfl
    · have hk : ¬ k < (ns.length : Int) := by simpa using of_decide_eq_false hb
      refine s_ret (v := .int (cell ns k)) ?_ fun H2 e2 => q H2 (e1.trans e2)
      unfold cell
      rw [if_neg hk]
      exact ev_c
def sp_law_whole : Sp := fun vs H Q _ => ∃ i : Int, vs = [.int i] ∧ RetV (.bl true) H Q
abbrev s_law_whole : Stmt := (top 29)
abbrev N_law_whole : List Str := ["_law_found"]
theorem sc_law_whole : FnScope N_law_whole ["_law_found"] (defScope s_law_whole) := ⟨rfl, rfl, rfl, by decide +kernel, rfl, by decide +kernel, by decide +kernel⟩

theorem ok_law_whole (T : Txt K mg) : FnOk P w K mg base CX0 1 T.a_law_whole T.d_law_whole ["_law_found"] sp_law_whole := by
  refine okN T.F_law_whole sc_law_whole (fun vs H Q E h => ?_) (fun cdv A outer s H vs Q E HR h => ?_)
  · obtain ⟨i, rfl, _⟩ := h
    rfl
  · obtain ⟨i, rfl, q⟩ := h
    refine ⟨_, (pss_one (ps_ret (pe_and (pe_callB call_isi (by rfl) T.n_isinstance (by decide +kernel) (pa_cons (pv 0) (pa_cons (pe_bltn (v := .ty "int") (by rfl) T.n_int (by decide +kernel) rfl) pa_nil))) (pe_one (pe_not (pe_callB call_isi (by rfl) T.n_isinstance (by decide +kernel) (pa_cons (pv 0) (pa_cons (pe_bltn (v := .ty "bool") (by rfl) T.n_bool (by decide +kernel) rfl) pa_nil)))))))), ?_⟩
    exact s_ret (v := .bl true) (ev_andV (a := true) (b := true) (isi_int (ev_var rfl)) fun _ => ev_notV (a := false) (isi_int (ev_var rfl))) q
/-! ### the law's drawing -/
def mixN (c : Int) (k : Nat) : Nat := ((c + 7919 * (k : Int) + 1) * 48271 % 2147483647).toNat
theorem mixN_eq (c : Int) (k : Nat) : (c + 7919 * (k : Int) + 1) * 48271 % 2147483647 = (mixN c k : Int) := by
  unfold mixN
  have := Int.emod_nonneg ((c + 7919 * (k : Int) + 1) * 48271) (by decide : (2147483647 : Int) ≠ 0)
  omega
theorem mixN_lt (c : Int) (k : Nat) : mixN c k < 2147483647 := by
  have := mixN_eq c k
  have h := Int.emod_lt_of_pos ((c + 7919 * (k : Int) + 1) * 48271) (by decide : (0 : Int) < 2147483647)
  omega
theorem mul_small {i j : Int} (h : -1000000 < j ∧ j < 1000000) : IntMulOk i j := CMul.ok (.inr (by omega))
theorem mul_smallL {i j : Int} (h : -1000000 < i ∧ i < 1000000) : IntMulOk i j := CMul.ok (.inl (by omega))
def sp_law_mixed : Sp := fun vs H Q _ => ∃ (c : Int) (k : Nat), vs = [.int c, .int (k : Int)] ∧ RetV (.int (mixN c k : Int)) H Q
abbrev s_law_mixed : Stmt := (top 30)
abbrev N_law_mixed : List Str := ["_law_cell", "_law_k"]
theorem sc_law_mixed : FnScope N_law_mixed ["_law_cell", "_law_k"] (defScope s_law_mixed) := ⟨rfl, rfl, rfl, by decide +kernel, rfl, by decide +kernel, by decide +kernel⟩

theorem ok_law_mixed (T : Txt K mg) : FnOk P w K mg base CX0 1 T.a_law_mixed T.d_law_mixed ["_law_cell", "_law_k"] sp_law_mixed := by
  refine okN T.F_law_mixed sc_law_mixed (fun vs H Q E h => ?_) (fun cdv A outer s H vs Q E HR h => ?_)
  · obtain ⟨c, k, rfl, _⟩ := h
    rfl
  · obtain ⟨c, k, rfl, q⟩ := h
    refine ⟨_, (pss_one (ps_ret (pe_op op_mod (pe_op op_mulG (pe_op op_add (pe_op op_add (pv 0) (pe_op op_mulG pe_int (pv 1))) pe_int) pe_int) pe_int))), ?_⟩
    refine s_ret (ev_is (ev_op (ev_op (ev_op (ev_op (ev_var rfl) (ev_op ev_c (ev_var rfl) (rv_I (mul_smallL (by omega)))) rv_I0) ev_c rv_I0) ev_c (rv_I (mul_small (by omega)))) ev_c (rv_I (by show (0 : Int) < 2147483647; decide))) (congrArg V.int (mixN_eq c k))) q
def dby (x : Nat) : Nat := if x % 3 = 0 then x / 3 % 5 else if x % 3 = 1 then x / 3 % 100 else x / 3 % 10000
theorem dby_lt (x : Nat) : dby x < 10000 := by
  unfold dby
  split
  · omega
  · split <;> omega
def sp_law_delay_by : Sp := fun vs H Q _ => ∃ x : Nat, vs = [.int (x : Int)] ∧ RetV (.int (dby x : Int)) H Q
abbrev s_law_delay_by : Stmt := (top 31)
abbrev N_law_delay_by : List Str := ["_law_number"]
theorem sc_law_delay_by : FnScope N_law_delay_by ["_law_number"] (defScope s_law_delay_by) := ⟨rfl, rfl, rfl, by decide +kernel, rfl, by decide +kernel, by decide +kernel⟩

theorem ok_law_delay_by (T : Txt K mg) : FnOk P w K mg base CX0 1 T.a_law_delay_by T.d_law_delay_by ["_law_number"] sp_law_delay_by := by
  refine okN T.F_law_delay_by sc_law_delay_by (fun vs H Q E h => ?_) (fun cdv A outer s H vs Q E HR h => ?_)
  · obtain ⟨x, rfl, _⟩ := h
    rfl
  · obtain ⟨x, rfl, q⟩ := h
    refine ⟨_, (pss_one (ps_ret (pe_ix ix_list (pe_lst (pa_cons (pe_op op_mod (pe_op op_fdiv (pv 0) pe_int) pe_int) (pa_cons (pe_op op_mod (pe_op op_fdiv (pv 0) pe_int) pe_int) (pa_cons (pe_op op_mod (pe_op op_fdiv (pv 0) pe_int) pe_int) pa_nil)))) (pe_op op_mod (pv 0) pe_int) (fun _ _ => rfl)))), ?_⟩
    have d3 : CDiv (x : Int) 3 := ⟨by decide, by decide⟩
    have p5 : (0 : Int) < 5 := by decide
    have p100 : (0 : Int) < 100 := by decide
    have pm : (0 : Int) < 10000 := by decide
    have p3 : (0 : Int) < 3 := by decide
    have hat : atI [V.int ((x : Int) / 3 % 5), V.int ((x : Int) / 3 % 100), V.int ((x : Int) / 3 % 10000)] ((x : Int) % 3) = some (.int (dby x : Int)) := by
      unfold dby
      by_cases e0 : x % 3 = 0
      · rw [if_pos e0, show (x : Int) % 3 = ((0 : Nat) : Int) by omega]
        refine (at_nat (j := 0) rfl).trans (congrArg (fun z => some (V.int z)) ?_)
        omega
      · by_cases e1 : x % 3 = 1
        · rw [if_neg e0, if_pos e1, show (x : Int) % 3 = ((1 : Nat) : Int) by omega]
          refine (at_nat (j := 1) rfl).trans (congrArg (fun z => some (V.int z)) ?_)
          omega
        · rw [if_neg e0, if_neg e1, show (x : Int) % 3 = ((2 : Nat) : Int) by omega]
          refine (at_nat (j := 2) rfl).trans (congrArg (fun z => some (V.int z)) ?_)
          omega
    refine s_ret (v := .int (dby x : Int)) (ev_opL1 (el_lst (ea_cons (ev_op (ev_op (ev_var rfl) ev_c (rv_I d3)) ev_c (rv_I p5)) (ea_cons (ev_op (ev_op (ev_var rfl) ev_c (rv_I d3)) ev_c (rv_I p100)) (ea_cons (ev_op (ev_op (ev_var rfl) ev_c (rv_I d3)) ev_c (rv_I pm)) ea_nil))) (by simp)) (fun H1 e1 => ev_op (ev_var rfl) ev_c (rv_I p3)) fun p H1 h1 e1 => rv_ixL (sq_of h1) hat) q
theorem many_ok (c : Int) : ∃ n : Nat, 1 ≤ n ∧ n ≤ 12 ∧ (if c / 6 % 8 = 1 then 7 + c / 48 % 6 else 1 + c % 6) = (n : Int) := by
  have h1 := Int.emod_nonneg (c / 48) (by decide : (6 : Int) ≠ 0)
  have h2 := Int.emod_lt_of_pos (c / 48) (by decide : (0 : Int) < 6)
  have h3 := Int.emod_nonneg c (by decide : (6 : Int) ≠ 0)
  have h4 := Int.emod_lt_of_pos c (by decide : (0 : Int) < 6)
  split
  · exact ⟨(7 + c / 48 % 6).toNat, by omega, by omega, by omega⟩
  · exact ⟨(1 + c % 6).toNat, by omega, by omega, by omega⟩
def sp_law_many (K : PySem.W.Frag) : Sp := fun vs H Q _ => ∃ (a : Addr) (ns : List Int), vs = [.ref a] ∧ SqL K H a (ns.map V.int) ∧ ∀ n : Nat, 1 ≤ n → n ≤ 12 → RetV (.int (n : Int)) H Q
abbrev s_law_many : Stmt := (top 32)
abbrev N_law_many : List Str := ["_law_script", "_law_cell"]
theorem sc_law_many : FnScope N_law_many ["_law_script"] (defScope s_law_many) := ⟨rfl, rfl, rfl, by decide +kernel, rfl, by decide +kernel, by decide +kernel⟩

theorem ok_law_many (T : Txt K mg) : FnOk P w K mg base CX0 2 T.a_law_many T.d_law_many ["_law_script"] (sp_law_many K) := by
  refine okN T.F_law_many sc_law_many (fun vs H Q E h => ?_) (fun cdv A outer s H vs Q E HR h => ?_)
  · obtain ⟨a, ns, rfl, _⟩ := h
    rfl
  · obtain ⟨a, ns, rfl, hS, q⟩ := h
    refine ⟨_, (pss_cons (ps_set (i := 1) sc_law_many.nd rfl (by first | exact Or.inl rfl | exact Or.inr rfl) (pe_call (ok_law_cell_at T) (HR.mono (by decide)) (by rfl) T.g_law_cell_at T.F_law_cell_at.kp T.b_law_cell_at .nil pass0 (pa_cons (pv 0) (pa_cons pe_int pa_nil))))
  (pss_cons (ps_if (pt_cmpR op_eq (pe_op op_mod (pe_op op_fdiv (pv 1) pe_int) pe_int) pe_int (nomark _))
  (pss_one (ps_ret (pe_op op_add pe_int (pe_op op_mod (pe_op op_fdiv (pv 1) pe_int) pe_int)))) pss_nil)
  (pss_one (ps_ret (pe_op op_add pe_int (pe_op op_mod (pv 1) pe_int)))))), ?_⟩
    refine q_asg (v := .int (cell ns 0)) (ev_callV (ea_cons (ev_var rfl) (ea_cons ev_c ea_nil)) fun H2 e2 Q E q => ⟨a, ns, 0, rfl, ex_l e2 hS, by decide, q⟩) fun H1 e1 => ?_
    have d6 : CDiv (cell ns 0) 6 := ⟨by decide, by decide⟩
    have d48 : CDiv (cell ns 0) 48 := ⟨by decide, by decide⟩
    have p8 : (0 : Int) < 8 := by decide
    have p6 : (0 : Int) < 6 := by decide
    obtain ⟨n, n1, n12, hn⟩ := many_ok (cell ns 0)
    refine q_when (b := decide (cell ns 0 / 6 % 8 = 1)) (et_is (et_test (ev_op (ev_op (ev_op (ev_var rfl) ev_c (rv_I d6)) ev_c (rv_I p8)) ev_c (rv_eq rfl))) (decide_eq_decide.mpr ⟨fun z => V.int.inj z, fun z => congrArg V.int z⟩)) (fun hb H2 e2 => ?_) (fun hb H2 e2 => ?_)
    · rw [if_pos (of_decide_eq_true hb)] at hn
      exact s_ret (ev_is (ev_op ev_c (ev_op (ev_op (ev_var rfl) ev_c (rv_I d48)) ev_c (rv_I p6)) rv_I0) (congrArg V.int hn)) fun H3 e3 => q n n1 n12 H3 ((e1.trans e2).trans e3)
    · rw [if_neg (of_decide_eq_false hb)] at hn
      exact s_ret (ev_is (ev_op ev_c (ev_op (ev_var rfl) ev_c (rv_I p6)) rv_I0) (congrArg V.int hn)) fun H3 e3 => q n n1 n12 H3 ((e1.trans e2).trans e3)
/-! ### webs by construction -/
structure WP (n B : Nat) (o : Nat → Nat) (ring : Bool) (i : Nat) (ws : List Way) : Prop where
  ends : ∀ w ∈ ws, w.1 < n ∧ w.2.1 < n
  del : ∀ w ∈ ws, w.2.2 ≤ B
  len : ws.length ≤ 2 * i
  rg : ring = true → ∀ k, k < i → (o k, o ((k + 1) % n)) ∈ edges ws
  tr : ring = false → ∀ k, k < i → 0 < k → ∃ a b, a < k ∧ b < k ∧ (o a, o k) ∈ edges ws ∧ (o k, o b) ∈ edges ws
theorem edges_sub {ws ws' : List Way} (h : ∀ w ∈ ws, w ∈ ws') : ∀ e ∈ edges ws, e ∈ edges ws' := fun e he => by
  obtain ⟨w, hw, rfl⟩ := List.mem_map.mp he
  exact List.mem_map.mpr ⟨w, h w hw, rfl⟩
theorem WP.zero {n B : Nat} {o : Nat → Nat} {ring : Bool} : WP n B o ring 0 [] := ⟨by simp, by simp, by simp, fun _ k h => by omega, fun _ k h => by omega⟩
theorem edge_in {ws : List Way} {a b d : Nat} (h : (a, b, d) ∈ ws) : (a, b) ∈ edges ws := mem_edges.mpr ⟨d, h⟩
theorem WP.ringStep {n B i d : Nat} {o : Nat → Nat} {ws : List Way} (h : WP n B o true i ws) (h1 : o i < n) (h2 : o ((i + 1) % n) < n) (hd : d ≤ B) : WP n B o true (i + 1) (ws ++ [(o i, o ((i + 1) % n), d)]) := by
  refine ⟨fun w hw => ?_, fun w hw => ?_, by rw [List.length_append]; have := h.len; simp only [List.length_cons, List.length_nil]; omega, fun _ k hk => ?_, fun z => by cases z⟩
  · rcases List.mem_append.mp hw with z | z
    · exact h.ends w z
    · rw [List.mem_singleton.mp z]
      exact ⟨h1, h2⟩
  · rcases List.mem_append.mp hw with z | z
    · exact h.del w z
    · rw [List.mem_singleton.mp z]
      exact hd
  · by_cases e : k = i
    · rw [e]
      exact edge_in (d := d) (List.mem_append_right _ (by simp))
    · exact edges_sub (fun w hw => List.mem_append_left _ hw) _ (h.rg rfl k (by omega))
theorem WP.treeStep {n B i d d' a b : Nat} {o : Nat → Nat} {ws : List Way} (h : WP n B o false i ws) (h1 : o i < n) (ha : o a < n) (hb : o b < n) (hai : a < i) (hbi : b < i) (hd : d ≤ B) (hd' : d' ≤ B) : WP n B o false (i + 1) (ws ++ [(o a, o i, d)] ++ [(o i, o b, d')]) := by
  refine ⟨fun w hw => ?_, fun w hw => ?_, by rw [List.length_append, List.length_append]; have := h.len; simp only [List.length_cons, List.length_nil]; omega, fun z => (by cases z), fun _ k hk h0 => ?_⟩
  · rcases List.mem_append.mp hw with z | z
    · rcases List.mem_append.mp z with z | z
      · exact h.ends w z
      · rw [List.mem_singleton.mp z]
        exact ⟨ha, h1⟩
    · rw [List.mem_singleton.mp z]
      exact ⟨h1, hb⟩
  · rcases List.mem_append.mp hw with z | z
    · rcases List.mem_append.mp z with z | z
      · exact h.del w z
      · rw [List.mem_singleton.mp z]
        exact hd
    · rw [List.mem_singleton.mp z]
      exact hd'
  · by_cases e : k = i
    · rw [e]
      exact ⟨a, b, hai, hbi, edge_in (d := d) (List.mem_append_left _ (List.mem_append_right _ (by simp))), edge_in (d := d') (List.mem_append_right _ (by simp))⟩
    · obtain ⟨x, y, q1, q2, q3, q4⟩ := h.tr rfl k (by omega) h0
      have sub := edges_sub (ws := ws) (ws' := ws ++ [(o a, o i, d)] ++ [(o i, o b, d')]) fun w hw => List.mem_append_left _ (List.mem_append_left _ hw)
      exact ⟨x, y, q1, q2, sub _ q3, sub _ q4⟩
theorem WP.treeSkip {n B : Nat} {o : Nat → Nat} {ws : List Way} (h : WP n B o false 0 ws) : WP n B o false 1 ws := ⟨h.ends, h.del, by have := h.len; omega, fun z => (by cases z), fun _ k hk h0 => by omega⟩
/-- what the second loop adds -/
structure WX (n B L : Nat) (ws vs : List Way) : Prop where
  ends : ∀ w ∈ vs, w.1 < n ∧ w.2.1 < n
  del : ∀ w ∈ vs, w.2.2 ≤ B
  sub : ∀ w ∈ ws, w ∈ vs
  len : vs.length ≤ L
theorem WX.snoc {n B L a b d : Nat} {ws vs : List Way} (h : WX n B L ws vs) (ha : a < n) (hb : b < n) (hd : d ≤ B) : WX n B (L + 1) ws (vs ++ [(a, b, d)]) := by
  refine ⟨fun w hw => ?_, fun w hw => ?_, fun w hw => List.mem_append_left _ (h.sub w hw), by rw [List.length_append]; have := h.len; simp only [List.length_cons, List.length_nil]; omega⟩
  · rcases List.mem_append.mp hw with z | z
    · exact h.ends w z
    · rw [List.mem_singleton.mp z]
      exact ⟨ha, hb⟩
  · rcases List.mem_append.mp hw with z | z
    · exact h.del w z
    · rw [List.mem_singleton.mp z]
      exact hd
theorem WP.web {n B : Nat} {ord : List Nat} {ring : Bool} {ws vs : List Way} {L : Nat} (h : WP n B (fun k => ord.getD k 0) ring n ws) (hv : WX n B L ws vs) (hL : L ≤ 60) (hB : B ≤ 9999) (n1 : 1 ≤ n) (n12 : n ≤ 12) (hr : n = 1 → ring = true) (hp : ord.Perm (List.range n)) : WebOk n vs := by
  have hlen : ord.length = n := by rw [hp.length_eq, List.length_range]
  have sub := edges_sub hv.sub
  have key : ∀ k, k < n → Reach (edges vs) (ord.getD 0 0) (ord.getD k 0) ∧ Reach (edges vs) (ord.getD k 0) (ord.getD 0 0) := by
    cases ring with
    | true =>
      have e : ∀ k, k < n → (ord.getD k 0, ord.getD ((k + 1) % n) 0) ∈ edges vs := fun k hk => sub _ (h.rg rfl k hk)
      have fwd : ∀ k, k < n → Reach (edges vs) (ord.getD 0 0) (ord.getD k 0) := by
        intro k
        induction k with
        | zero => exact fun _ => .refl _
        | succ k ih =>
          intro hk
          have z := e k (by omega)
          rw [Nat.mod_eq_of_lt hk] at z
          exact (ih (by omega)).step z
      have back : ∀ j k, k < n → j + k + 1 = n → Reach (edges vs) (ord.getD k 0) (ord.getD 0 0) := by
        intro j
        induction j with
        | zero =>
          intro k hk hj
          have z := e k hk
          rw [show k + 1 = n by omega, Nat.mod_self] at z
          exact .one z
        | succ j ih =>
          intro k hk hj
          have z := e k hk
          rw [Nat.mod_eq_of_lt (by omega)] at z
          exact (Reach.one z).trans (ih (k + 1) (by omega) (by omega))
      exact fun k hk => ⟨fwd k hk, back (n - 1 - k) k hk (by omega)⟩
    | false =>
      intro k
      induction k using Nat.strongRecOn with
      | _ k ih =>
        intro hk
        by_cases h0 : k = 0
        · rw [h0]
          exact ⟨.refl _, .refl _⟩
        · obtain ⟨a, b, q1, q2, q3, q4⟩ := h.tr rfl k hk (by omega)
          exact ⟨(ih a q1 (by omega)).1.step (sub _ q3), (Reach.one (sub _ q4)).trans (ih b q2 (by omega)).2⟩
  have at_ : ∀ m, m < n → ∃ k, k < n ∧ ord.getD k 0 = m := fun m hm => by
    have : m ∈ ord := hp.mem_iff.mpr (List.mem_range.mpr hm)
    obtain ⟨k, hk⟩ := List.mem_iff_getElem?.mp this
    exact ⟨k, by have := (List.getElem?_eq_some_iff.mp hk).1; omega, getD_of hk⟩
  have all : ∀ a b, a < n → b < n → Reach (edges vs) a b := fun a b ha hb => by
    obtain ⟨i, hi, rfl⟩ := at_ a ha
    obtain ⟨j, hj, rfl⟩ := at_ b hb
    exact (key i hi).2.trans (key j hj).1
  refine ⟨n1, n12, Nat.le_trans hv.len hL, hv.ends, fun w hw => Nat.le_trans (hv.del w hw) hB, fun z => ?_, fun m hm => all 0 m (by omega) hm, fun m hm => (all m 0 hm (by omega)).rev'⟩
  have nn : ws = [] := List.eq_nil_iff_forall_not_mem.mpr fun w hw => by
    have := hv.sub w hw
    rw [z] at this
    cases this
  cases ring with
  | true =>
    have := h.rg rfl 0 (by omega)
    rw [nn] at this
    cases this
  | false =>
    have n2 : 1 < n := by
      rcases Nat.lt_or_ge 1 n with z | z
      · exact z
      · have := hr (by omega)
        cases this
    obtain ⟨a, b, _, _, q3, _⟩ := h.tr rfl 1 n2 (by omega)
    rw [nn] at q3
    cases q3
/-- the same ways in another order -/
theorem WebOk.perm {n : Nat} {ws vs : List Way} (h : WebOk n ws) (hp : vs.Perm ws) : WebOk n vs := by
  have m1 : ∀ w, w ∈ vs ↔ w ∈ ws := fun w => hp.mem_iff
  have s1 : ∀ e ∈ edges ws, e ∈ edges vs := edges_sub fun w hw => (m1 w).mpr hw
  have s2 : ∀ e ∈ redges ws, e ∈ redges vs := fun e he => by
    obtain ⟨a, b⟩ := e
    rw [mem_re] at he ⊢
    exact s1 _ he
  exact ⟨h.n1, h.n12, by rw [hp.length_eq]; exact h.len, fun w hw => h.ends w ((m1 w).mp hw), fun w hw => h.del w ((m1 w).mp hw), fun z => h.ne (by
    rw [z] at hp
    exact List.perm_nil.mp hp.symm), fun m hm => (h.fwd m hm).mono s1, fun m hm => (h.bwd m hm).mono s2⟩
theorem rot_perm {α : Type} (l : List α) (t : Nat) : (l.drop t ++ l.take t).Perm l := List.perm_append_comm.trans (by rw [List.take_append_drop])
theorem os_nat {os : List Int} {n : Nat} (h : os.Perm ((List.range n).map Int.ofNat)) : ∃ ord : List Nat, os = ord.map (fun (m : Nat) => (m : Int)) ∧ ord.Perm (List.range n) := by
  have h2 := h.map Int.toNat
  have e : ((List.range n).map Int.ofNat).map Int.toNat = List.range n := by
    rw [List.map_map]
    conv => rhs; rw [← List.map_id (List.range n)]
    exact List.map_congr_left fun a _ => rfl
  rw [e] at h2
  refine ⟨os.map Int.toNat, ?_, h2⟩
  rw [List.map_map]
  conv => lhs; rw [← List.map_id os]
  refine List.map_congr_left fun a ha => ?_
  obtain ⟨m, _, rfl⟩ := List.mem_map.mp (h.mem_iff.mp ha)
  rfl
def sp_law_common : Sp := fun vs H Q _ => ∃ a b : Nat, vs = [.int a, .int b] ∧ RetV (.int ((Nat.gcd a b : Nat) : Int)) H Q
abbrev s_law_common : Stmt := (top 35)
abbrev N_law_common : List Str := ["_law_one", "_law_other", "_law_rest"]
theorem sc_law_common : FnScope N_law_common ["_law_one", "_law_other"] (defScope s_law_common) := ⟨rfl, rfl, rfl, by decide +kernel, rfl, by decide +kernel, by decide +kernel⟩

theorem ok_law_common (T : Txt K mg) : FnOk P w K mg base CX0 1 T.a_law_common T.d_law_common ["_law_one", "_law_other"] sp_law_common := by
  refine okN T.F_law_common sc_law_common (fun vs H Q E h => ?_) (fun cdv A outer s H vs Q E HR h => ?_)
  · obtain ⟨a, b, rfl, _⟩ := h
    rfl
  · obtain ⟨a, b, rfl, q⟩ := h
    refine ⟨_, (pss_cons (ps_while PassesOwn.never (pt_cmpR op_gt (pv 1) pe_int (nomark _))
  (pss_cons (ps_set (i := 2) sc_law_common.nd rfl (by first | exact Or.inl rfl | exact Or.inr rfl) (pe_op op_mod (pv 0) (pv 1)))
  (pss_cons (ps_set (i := 0) sc_law_common.nd rfl (by first | exact Or.inl rfl | exact Or.inr rfl) (pv 1))
  (pss_one (ps_set (i := 1) sc_law_common.nd rfl (by first | exact Or.inl rfl | exact Or.inr rfl) (pv 2))))))
  (pss_one (ps_ret (pv 0)))), ?_⟩
    refine q_while (fun m σ H' => ∃ (x y : Nat) (r : Option V), σ = [some (.int x), some (.int y), r] ∧ Nat.gcd x y = Nat.gcd a b ∧ m = y ∧ Ex H H') b ⟨a, b, none, rfl, rfl, rfl, Ex.refl H⟩ ?_
    rintro m σ H' ⟨x, y, r, rfl, hg, rfl, e⟩
    refine ⟨decide ((0 : Int) < (m : Int)), et_test (ev_op (ev_var rfl) ev_c rv_I0), fun hb2 H3 e3 => ?_, fun hb2 H3 e3 => ?_⟩
    · have hm : 0 < m := by simpa using of_decide_eq_true hb2
      refine ⟨fun σ H' => ∃ (r : Option V), σ = [some (.int m), some (.int ((x % m : Nat) : Int)), r] ∧ Ex H H', ?_, ?_⟩
      · rintro σ2 H4 ⟨r, rfl, e4⟩
        exact ⟨x % m, Nat.mod_lt _ hm, m, x % m, r, rfl, by rw [← hg, Nat.gcd_comm x m, Nat.gcd_rec m x, Nat.gcd_comm], rfl, e4⟩
      · refine q_asg (ev_op (ev_var rfl) (ev_var rfl) (rv_I (by show (0 : Int) < (m : Int); omega))) fun H4 e4 => ?_
        refine q_asg (ev_var rfl) fun H5 e5 => ?_
        refine s_asg (ev_var rfl) fun H6 e6 => ?_
        exact ⟨_, rfl, ((((e.trans e3).trans e4).trans e5).trans e6)⟩
    · have hm : m = 0 := by
        have := of_decide_eq_false hb2
        omega
      subst hm
      rw [Nat.gcd_zero_right] at hg
      subst hg
      exact s_ret (ev_var rfl) fun H4 e4 => q H4 ((e.trans e3).trans e4)
theorem Tups.drop {H : Hp} {vs : List V} {xss : List (List V)} (h : Tups H vs xss) (t : Nat) : Tups H (vs.drop t) (xss.drop t) := ⟨by rw [List.length_drop, List.length_drop, h.1], fun i x hx => by
  rw [List.getElem?_drop] at hx ⊢
  exact h.2 _ x hx⟩
theorem Tups.take {H : Hp} {vs : List V} {xss : List (List V)} (h : Tups H vs xss) (t : Nat) : Tups H (vs.take t) (xss.take t) := ⟨by rw [List.length_take, List.length_take, h.1], fun i x hx => by
  have hi : i < t := by
    have := (List.getElem?_eq_some_iff.mp hx).1
    rw [List.length_take] at this
    omega
  rw [List.getElem?_take_of_lt hi] at hx ⊢
  exact h.2 _ x hx⟩
theorem Tups.app {H : Hp} {vs vs' : List V} {xss xss' : List (List V)} (h : Tups H vs xss) (h' : Tups H vs' xss') : Tups H (vs ++ vs') (xss ++ xss') := ⟨by rw [List.length_append, List.length_append, h.1, h'.1], fun i x hx => by
  by_cases hi : i < xss.length
  · rw [List.getElem?_append_left hi] at hx
    rw [List.getElem?_append_left (by rw [h.1]; exact hi)]
    exact h.2 i x hx
  · rw [List.getElem?_append_right (by omega)] at hx
    rw [List.getElem?_append_right (by rw [h.1]; omega), h.1]
    exact h'.2 _ x hx⟩
theorem ex_lN {K : PySem.W.Frag} {H H' : Hp} {a : Addr} {xs : List V} (e : LamX.ExtN H H') (h : SqL K H a xs) : SqL K H' a xs := by
  rcases h with (h | ⟨o, h⟩) | h
  · exact Or.inl (Or.inl (e a _ h fun ps z => by cases z))
  · exact Or.inl (Or.inr ⟨o, e a _ h fun ps z => by cases z⟩)
  · exact Or.inr h
/-- sorted(range(n), key=..): an arrangement -/
theorem q_sortLam {σ : L2.St} {H : Hp} {D : Ends} {tz : TS} {P0 : Addr} {i j ic : Nat} {n : Nat} {c : Int} (h1 : σ[j]? = some (some (.int (n : Int)))) (h2 : σ[ic]? = some (some (.int c))) (hT : LamX.Tabs (lamT P0) H) (hn : n ≤ 1000)
    (k : ∀ (ord : List Nat) (p : Addr) (H2 : Hp), LamX.ExtN H H2 → ord.Perm (List.range n) → H2 p = some (.lst (natV ord)) → tz D (σ.set i (some (.ref p))) H2) :
    tSeq (tAsg (tSortLam (lamT P0) ic (tCB (fun (vs : List V) (H : Hp) (Q : VK) => ∃ j, vs = [V.int j] ∧ ∀ p, H p = none → Q (V.ref p) (upd H p (.rng 0 j))) (tCons (tVar j) tNil))) (gName i)) tz D σ H := by
  refine ⟨_, h1, (n : Int), rfl, fun r hr => ⟨r, (n : Int), c, rfl, upd_same, by omega, by omega, h2, hT.ext (Ex.new hr), fun os p H2 eN hp hp2 => ?_⟩⟩
  rw [Int.toNat_natCast] at hp
  obtain ⟨ord, e, ho⟩ := os_nat hp
  refine k ord p _ ((LamX.ExtN.of (Ex.new hr)).trans (eN.trans (LamX.ExtN.of (Ex.new hp2)))) ho ?_
  rw [upd_same, e, natV_int]
def RetWays (n B : Nat) (H : Hp) (Q : VK) : Prop := ∀ ws D H2 us, WebOk n ws → (∀ w ∈ ws, w.2.2 ≤ B) → ws.length ≤ 40 → LamX.ExtN H H2 → H2 D = some (.lst us) → Tups H2 us (ws.map wayV) → Q (.ref D) H2
theorem mo_ways {n B : Nat} : Mo (RetWays n B) := fun _ _ _ e k ws D H3 us a b c e3 d f => k ws D H3 us a b c ((LamX.ExtN.of e).trans e3) d f
def sp_law_ways (K : PySem.W.Frag) (P0 : Addr) : Sp := fun vs H Q _ => ∃ (a : Addr) (ns : List Int) (n : Nat), vs = [.ref a, .int (n : Int)] ∧ SqL K H a (ns.map V.int) ∧ LamX.Tabs (lamT P0) H ∧ 1 ≤ n ∧ n ≤ 12 ∧ RetWays n 9999 H Q
abbrev s_law_ways : Stmt := (top 33)
abbrev N_law_ways : List Str := ["_law_script", "_law_many_here", "_law_cell", "_law_order", "_law_ways_here", "_law_k", "_law_number", "_law_turn"]
theorem sc_law_ways : FnScope N_law_ways ["_law_script", "_law_many_here"] (defScope s_law_ways) := ⟨rfl, rfl, rfl, by decide +kernel, rfl, by decide +kernel, by decide +kernel⟩

theorem ok_law_ways (T : Txt K mg) (TB : LamX.TabB base mg T.c_lw T.P_lw) : FnOk P w K mg base CX0 2 T.a_law_ways T.d_law_ways ["_law_script", "_law_many_here"] (sp_law_ways K T.P_lw) := by
  refine okL T.F_law_ways T.code_lw sc_law_ways (fun vs H Q E h => ?_) (fun A outer s H vs Q E HR h => ?_)
  · obtain ⟨a, ns, n, rfl, _⟩ := h
    rfl
  · obtain ⟨a, ns, n, rfl, hS0, hTb, n1, n12, q⟩ := h
    have ccell : ∀ (ns : List Int) (σ : L2.St) (H1 : Hp) (t : TE) (k : Nat), SqL K H1 a (ns.map V.int) → σ[0]? = some (some (.ref a)) → Ev t σ H1 (.int (k : Int)) → Ev (tCall (sp_law_cell_at K) [] E0 (tCons (tVar 0) (tCons t tNil))) σ H1 (.int (cell ns k)) := fun ns σ H1 t k hS hσ ht =>
      ev_callV (ea_cons (ev_var hσ) (ea_cons ht ea_nil)) fun H2 e2 Q E q => ⟨a, ns, k, rfl, ex_l e2 hS, by omega, q⟩
    have cmix : ∀ (σ : L2.St) (H1 : Hp) (t1 t2 : TE) (c : Int) (k : Nat), Ev t1 σ H1 (.int c) → Ev t2 σ H1 (.int (k : Int)) → Ev (tCall sp_law_mixed [] E0 (tCons t1 (tCons t2 tNil))) σ H1 (.int (mixN c k : Int)) := fun σ H1 t1 t2 c k h1 h2 =>
      ev_callV (ea_cons h1 (ea_cons h2 ea_nil)) fun H2 e2 Q E q => ⟨c, k, rfl, q⟩
    have dl : ∀ (σ : L2.St) (H1 : Hp) (t : TE) (x : Nat), True → Ev t σ H1 (.int (x : Int)) → Ev (tCall sp_law_delay_by [] E0 (tCons t tNil)) σ H1 (.int (dby x : Int)) := fun σ H1 t x _ h => ev_callV (ea_cons h ea_nil) fun H2 e2 Q E q => ⟨x, rfl, q⟩
    have dlt : ∀ x, dby x ≤ 9999 := fun x => by have := dby_lt x; omega
    have dv : ∀ (σ : L2.St) (H1 : Hp) (t : TE) (x k : Nat), 0 < k → k < 1073741824 → Ev t σ H1 (.int (x : Int)) → Ev (tOp (rI CDiv fun i j => V.int (i / j)) t (tC (.int (k : Int)))) σ H1 (.int ((x / k : Nat) : Int)) := fun σ H1 t x k h0 hk h =>
      ev_is (ev_op h ev_c (rv_I ⟨by omega, by omega⟩)) (by rw [Int.natCast_ediv])
    have md : ∀ (σ : L2.St) (H1 : Hp) (t u : TE) (x k : Nat), 0 < k → Ev t σ H1 (.int (x : Int)) → Ev u σ H1 (.int (k : Int)) → Ev (tOp (rI (fun x j => 0 < j) fun i j => V.int (i % j)) t u) σ H1 (.int ((x % k : Nat) : Int)) := fun σ H1 t u x k h0 h hu =>
      ev_is (ev_op h hu (rv_I (by show (0 : Int) < (k : Int); omega))) (by rw [Int.natCast_emod])
    refine ⟨_, (pss_cons (ps_set (i := 2) sc_law_ways.nd rfl (by first | exact Or.inl rfl | exact Or.inr rfl) (pe_call (ok_law_cell_at T) (HR.mono (by decide)) (by rfl) T.g_law_cell_at T.F_law_cell_at.kp T.b_law_cell_at .nil pass0 (pa_cons (pv 0) (pa_cons pe_int pa_nil))))
  (pss_cons (ps_set (i := 3) sc_law_ways.nd rfl (by first | exact Or.inl rfl | exact Or.inr rfl) (pe_sortedLam (T := lamT T.P_lw) (ic := 2) rfl (by rfl) T.n_sorted TB rfl (List.mem_singleton.mpr (by rfl)) (fun p hp _ => (by rw [List.mem_singleton.mp hp]; rfl)) (by rfl) (by show ∀ y ∈ Scope.names _, y.2 = NameKind.free → (defScope (top 33)).names.lookup y.1 = some NameKind.cell ∨ (defScope (top 33)).names.lookup y.1 = some NameKind.free; decide +kernel) (fun _ _ _ _ _ _ => by rfl) rfl rfl rfl (by decide +kernel) (by rfl) (by rfl) (by rfl) (by rfl) HR (pe_callTy cr_range1 (by rfl) T.n_range (by decide +kernel) (pa_cons (pv 1) pa_nil))))
  (pss_cons (ps_set (i := 4) sc_law_ways.nd rfl (by first | exact Or.inl rfl | exact Or.inr rfl) (pe_lst pa_nil))
  (pss_cons (ps_for PassesOwn.never rfl (pi_range1 (by rfl) T.n_range (pa_cons (pv 1) pa_nil)) (pg_name (i := 5) sc_law_ways.nd rfl (by first | exact Or.inl rfl | exact Or.inr rfl))
  (pss_cons (ps_set (i := 6) sc_law_ways.nd rfl (by first | exact Or.inl rfl | exact Or.inr rfl) (pe_call (ok_law_mixed T) (HR.mono (by decide)) (by rfl) T.g_law_mixed T.F_law_mixed.kp T.b_law_mixed .nil pass0 (pa_cons (pe_call (ok_law_cell_at T) (HR.mono (by decide)) (by rfl) T.g_law_cell_at T.F_law_cell_at.kp T.b_law_cell_at .nil pass0 (pa_cons (pv 0) (pa_cons pe_int pa_nil))) (pa_cons (pv 5) pa_nil))))
  (pss_one (ps_if (PW.pt (pw_or (pt_cmpR op_eq (pv 1) pe_int (nomark _)) (pw_or1 (pt_cmpR op_eq (pe_op op_mod (pe_op op_fdiv (pv 2) pe_int) pe_int) pe_int (nomark _)))))
  (pss_one (ps_expr (pe_bm PySem.F.plainAttrs_list PySem.F.slot_list_append PySem.F.type_list_append mt_append (pv 4) (pa_cons (pe_tup (pa_cons (pe_ix ix_list (pv 3) (pv 5) (fun _ _ => rfl)) (pa_cons (pe_ix ix_list (pv 3) (pe_op op_mod (pe_op op_add (pv 5) pe_int) (pv 1)) (fun _ _ => rfl)) (pa_cons (pe_call (ok_law_delay_by T) (HR.mono (by decide)) (by rfl) T.g_law_delay_by T.F_law_delay_by.kp T.b_law_delay_by .nil pass0 (pa_cons (pv 6) pa_nil)) pa_nil)))) pa_nil)))) (pss_one (ps_if (pt_cmpR op_gt (pv 5) pe_int (nomark _))
  (pss_cons (ps_expr (pe_bm PySem.F.plainAttrs_list PySem.F.slot_list_append PySem.F.type_list_append mt_append (pv 4) (pa_cons (pe_tup (pa_cons (pe_ix ix_list (pv 3) (pe_op op_mod (pe_op op_fdiv (pv 6) pe_int) (pv 5)) (fun _ _ => rfl)) (pa_cons (pe_ix ix_list (pv 3) (pv 5) (fun _ _ => rfl)) (pa_cons (pe_call (ok_law_delay_by T) (HR.mono (by decide)) (by rfl) T.g_law_delay_by T.F_law_delay_by.kp T.b_law_delay_by .nil pass0 (pa_cons (pe_op op_fdiv (pv 6) pe_int) pa_nil)) pa_nil)))) pa_nil)))
  (pss_one (ps_expr (pe_bm PySem.F.plainAttrs_list PySem.F.slot_list_append PySem.F.type_list_append mt_append (pv 4) (pa_cons (pe_tup (pa_cons (pe_ix ix_list (pv 3) (pv 5) (fun _ _ => rfl)) (pa_cons (pe_ix ix_list (pv 3) (pe_op op_mod (pe_op op_fdiv (pv 6) pe_int) (pv 5)) (fun _ _ => rfl)) (pa_cons (pe_call (ok_law_delay_by T) (HR.mono (by decide)) (by rfl) T.g_law_delay_by T.F_law_delay_by.kp T.b_law_delay_by .nil pass0 (pa_cons (pe_op op_fdiv (pv 6) pe_int) pa_nil)) pa_nil)))) pa_nil))))) pss_nil))))))
  (pss_cons (ps_for PassesOwn.never rfl (pi_range1 (by rfl) T.n_range (pa_cons (pe_op op_mod (pe_op op_fdiv (pv 2) pe_int) pe_int) pa_nil)) (pg_name (i := 5) sc_law_ways.nd rfl (by first | exact Or.inl rfl | exact Or.inr rfl))
  (pss_cons (ps_set (i := 6) sc_law_ways.nd rfl (by first | exact Or.inl rfl | exact Or.inr rfl) (pe_call (ok_law_mixed T) (HR.mono (by decide)) (by rfl) T.g_law_mixed T.F_law_mixed.kp T.b_law_mixed .nil pass0 (pa_cons (pe_call (ok_law_cell_at T) (HR.mono (by decide)) (by rfl) T.g_law_cell_at T.F_law_cell_at.kp T.b_law_cell_at .nil pass0 (pa_cons (pv 0) (pa_cons (pe_op op_add pe_int (pe_op op_mod (pv 5) pe_int)) pa_nil))) (pa_cons (pv 5) pa_nil))))
  (pss_one (ps_expr (pe_bm PySem.F.plainAttrs_list PySem.F.slot_list_append PySem.F.type_list_append mt_append (pv 4) (pa_cons (pe_tup (pa_cons (pe_op op_mod (pv 6) (pv 1)) (pa_cons (pe_op op_mod (pe_op op_fdiv (pv 6) pe_int) (pv 1)) (pa_cons (pe_call (ok_law_delay_by T) (HR.mono (by decide)) (by rfl) T.g_law_delay_by T.F_law_delay_by.kp T.b_law_delay_by .nil pass0 (pa_cons (pe_op op_fdiv (pv 6) pe_int) pa_nil)) pa_nil)))) pa_nil))))))
  (pss_cons (ps_set (i := 7) sc_law_ways.nd rfl (by first | exact Or.inl rfl | exact Or.inr rfl) (pe_op op_mod (pe_call (ok_law_cell_at T) (HR.mono (by decide)) (by rfl) T.g_law_cell_at T.F_law_cell_at.kp T.b_law_cell_at .nil pass0 (pa_cons (pv 0) (pa_cons pe_int pa_nil))) (pe_callB call_len_seq (by rfl) T.n_len boot_len (pa_cons (pv 4) pa_nil))))
  (pss_one (ps_ret (pe_op op_cat (pe_slice sl_list (pv 4) (po_some (pv 7)) po_none) (pe_slice sl_list (pv 4) po_none (po_some (pv 7)))))))))))), ?_⟩
    refine q_asg (v := .int (cell ns ((1 : Nat) : Int))) (ccell ns _ _ _ 1 hS0 rfl ev_c) fun H1 e1 => ?_
    refine q_sortLam (n := n) rfl rfl (hTb.ext e1) (by omega) fun ord po H2 eN hperm hpo => ?_
    have eN2 : LamX.ExtN H H2 := (LamX.ExtN.of e1).trans eN
    have hS := ex_lN eN2 hS0
    have olen : ord.length = n := by rw [hperm.length_eq, List.length_range]
    have oat : ∀ k, k < n → (natV ord)[k]? = some (.int ((ord.getD k 0 : Nat) : Int)) := fun k hk => natV_at (by rw [List.getD_eq_getElem?_getD, List.getElem?_eq_getElem (by omega)]; rfl)
    have olt : ∀ k, k < n → ord.getD k 0 < n := fun k hk => by
      have : ord.getD k 0 ∈ ord := by
        rw [List.getD_eq_getElem?_getD, List.getElem?_eq_getElem (by omega)]
        exact List.getElem_mem _
      exact List.mem_range.mp (hperm.mem_iff.mp this)
    have oev : ∀ (σ : L2.St) (H3 : Hp) (t : TE) (k : Nat), Ex H2 H3 → σ[3]? = some (some (.ref po)) → k < n → Ev t σ H3 (.int (k : Int)) → Ev (tOp (rIxL K) (tVar 3) t) σ H3 (.int ((ord.getD k 0 : Nat) : Int)) := fun σ H3 t k e hσ hk h =>
      ev_op (ev_var hσ) h (rv_ixL (sq_of (e _ _ hpo)) (at_nat (oat k hk)))
    refine q_asgL (el_lst ea_nil (by simp)) fun l H3 hl e3 h3 => ?_
    let ring : Bool := decide (n = 1) || decide (cell ns ((1 : Nat) : Int) / 12 % 2 = 0)
    refine q_forR1 (n := (n : Int)) (ea_cons (ev_var rfl) ea_nil) ⟨by omega, by omega⟩ (fun i σ' H' => ∃ (r5 r6 : Option V) (ws : List Way) (us : List V), σ' = [some (.ref a), some (.int (n : Int)), some (.int (cell ns ((1 : Nat) : Int))), some (.ref po), some (.ref l), r5, r6, none] ∧ H' l = some (.lst us) ∧ Tups H' us (ws.map wayV) ∧ WP n 9999 (fun k => ord.getD k 0) ring i ws ∧ Ex H2 H')
      (fun H4 e4 => ⟨none, none, [], [], rfl, e4 _ _ h3, Tups.nil, WP.zero, e3.trans e4⟩) ?_ ?_
    · rintro i σ' H' hi ⟨r5, r6, ws, us, rfl, hl', hT, hP, e⟩
      have hi2 : i < n := by omega
      have ulen : us.length = ws.length := hT.1.trans (List.length_map _)
      have wlen := hP.len
      generalize hx : mixN (cell ns ((2 : Nat) : Int)) i = x
      refine q_asg (v := .int (x : Int)) (ev_is (cmix _ _ _ _ _ i (ccell ns _ _ _ 2 (ex_l e hS) rfl ev_c) (ev_var rfl)) (by rw [hx])) fun H4 e4 => ?_
      refine s_if (b := ring) (et_or (a := decide (n = 1)) (et_is (et_test (ev_op (ev_var rfl) ev_c (rv_eq rfl))) (decide_eq_decide.mpr ⟨fun z => by have := V.int.inj z; omega, fun z => by rw [z]; rfl⟩)) fun _ => et_is (et_test (ev_op (ev_op (ev_op (ev_var rfl) ev_c (rv_I ⟨by decide, by decide⟩)) ev_c (rv_I (by show (0 : Int) < 2; decide))) ev_c (rv_eq rfl))) (decide_eq_decide.mpr ⟨fun z => V.int.inj z, fun z => congrArg V.int z⟩)) (fun hb H5 e5 => ?_) (fun hb H5 e5 => ?_)
      · have e45 := e4.trans e5
        have eX := e.trans e45
        have hmod : (i + 1) % n < n := Nat.mod_lt _ (by omega)
        refine s_appU (l := l) (e45 _ _ hl') (ev_var rfl) (ys := wayV (ord.getD i 0, ord.getD ((i + 1) % n) 0, dby x)) (eu_tup (ea_cons (oev _ _ _ _ eX rfl hi2 (ev_var rfl)) (ea_cons (oev _ _ _ _ eX rfl hmod (md _ _ _ _ (i + 1) n (by omega) (ev_is (ev_op (ev_var rfl) ev_c rv_I0) (by rfl)) (ev_var rfl))) (ea_cons (dl _ _ _ x trivial (ev_var rfl)) ea_nil))) (by show 3 ≤ 100000; decide)) (by omega) fun q2 H6 hq2 e6 h6 => ?_
        rw [hb] at hP
        refine ⟨_, _, ws ++ [(ord.getD i 0, ord.getD ((i + 1) % n) 0, dby x)], _, rfl, upd_same, ?_, by rw [hb]; exact hP.ringStep (olt i hi2) (olt _ hmod) (dlt x), Ex.mut (eX.trans e6) (by exact hl)⟩
        rw [List.map_append]
        exact ((hT.ex (e45.trans e6)).upd (e6 _ _ (e45 _ _ hl'))).snoc (by rw [upd_ne fun z => by rw [z, e6 _ _ (e45 _ _ hl')] at h6; cases h6]; exact h6)
      · have e45 := e4.trans e5
        have eX := e.trans e45
        rw [hb] at hP
        refine s_when (b := decide (0 < i)) (et_is (et_test (ev_op (ev_var rfl) ev_c rv_I0)) (decide_eq_decide.mpr (by omega))) (fun hb2 H6 e6 => ?_) (fun hb2 H6 e6 => ?_)
        · have h0 : 0 < i := of_decide_eq_true hb2
          have e46 := e45.trans e6
          have eX6 := eX.trans e6
          have l1 : x / 7 % i < i := Nat.mod_lt _ h0
          have l2 : x / 512 % i < i := Nat.mod_lt _ h0
          refine q_appU (l := l) (e46 _ _ hl') (ev_var rfl) (ys := wayV (ord.getD (x / 7 % i) 0, ord.getD i 0, dby (x / 64))) (eu_tup (ea_cons (oev _ _ _ _ eX6 rfl (by omega) (md _ _ _ _ _ i h0 (dv _ _ _ x 7 (by decide) (by decide) (ev_var rfl)) (ev_var rfl))) (ea_cons (oev _ _ _ _ eX6 rfl hi2 (ev_var rfl)) (ea_cons (dl _ _ _ (x / 64) trivial (dv _ _ _ x 64 (by decide) (by decide) (ev_var rfl))) ea_nil))) (by show 3 ≤ 100000; decide)) (by omega) fun q2 H7 hq2 e7 h7 => ?_
          have hT7 : Tups (upd H7 l (.lst (us ++ [.ref q2]))) (us ++ [.ref q2]) ((ws ++ [(ord.getD (x / 7 % i) 0, ord.getD i 0, dby (x / 64))]).map wayV) := by
            rw [List.map_append]
            exact ((hT.ex (e46.trans e7)).upd (e7 _ _ (e46 _ _ hl'))).snoc (by rw [upd_ne fun z => by rw [z, e7 _ _ (e46 _ _ hl')] at h7; cases h7]; exact h7)
          have eX7 : Ex H2 (upd H7 l (.lst (us ++ [.ref q2]))) := Ex.mut (eX6.trans e7) hl
          have l7 : upd H7 l (.lst (us ++ [.ref q2])) l = some (.lst (us ++ [.ref q2])) := upd_same
          generalize upd H7 l (.lst (us ++ [.ref q2])) = HX at hT7 eX7 l7
          refine s_appU (l := l) l7 (ev_var rfl) (ys := wayV (ord.getD i 0, ord.getD (x / 512 % i) 0, dby (x / 4096))) (eu_tup (ea_cons (oev _ _ _ _ eX7 rfl hi2 (ev_var rfl)) (ea_cons (oev _ _ _ _ eX7 rfl (by omega) (md _ _ _ _ _ i h0 (dv _ _ _ x 512 (by decide) (by decide) (ev_var rfl)) (ev_var rfl))) (ea_cons (dl _ _ _ (x / 4096) trivial (dv _ _ _ x 4096 (by decide) (by decide) (ev_var rfl))) ea_nil))) (by show 3 ≤ 100000; decide)) (by rw [List.length_append]; show us.length + 1 < 100000; omega) fun q3 H8 hq3 e8 h8 => ?_
          refine ⟨_, _, ws ++ [(ord.getD (x / 7 % i) 0, ord.getD i 0, dby (x / 64))] ++ [(ord.getD i 0, ord.getD (x / 512 % i) 0, dby (x / 4096))], _, rfl, upd_same, ?_, by rw [hb]; exact hP.treeStep (olt i hi2) (olt _ (by omega)) (olt _ (by omega)) l1 l2 (dlt _) (dlt _), Ex.mut (eX7.trans e8) hl⟩
          rw [List.map_append]
          exact ((hT7.ex e8).upd (e8 _ _ l7)).snoc (by rw [upd_ne fun z => by rw [z, e8 _ _ l7] at h8; cases h8]; exact h8)
        · have h0 : i = 0 := by
            have := of_decide_eq_false hb2
            omega
          subst h0
          have e46 := e45.trans e6
          exact ⟨_, _, ws, us, rfl, e46 _ _ hl', hT.ex e46, by rw [hb]; exact hP.treeSkip, e.trans e46⟩
    rintro σ' H4 ⟨r5, r6, ws, us, rfl, hl4, hT4, hP, e4⟩
    generalize hL : (cell ns ((1 : Nat) : Int) / 24 % 13).toNat = L
    have hLe : cell ns ((1 : Nat) : Int) / 24 % 13 = (L : Int) := by
      have := Int.emod_nonneg (cell ns ((1 : Nat) : Int) / 24) (by decide : (13 : Int) ≠ 0)
      omega
    have hLlt : L < 13 := by
      have := Int.emod_lt_of_pos (cell ns ((1 : Nat) : Int) / 24) (by decide : (0 : Int) < 13)
      omega
    have wlen := hP.len
    refine q_forR1 (n := (L : Int)) (ea_cons (ev_is (ev_op (ev_op (ev_var rfl) ev_c (rv_I ⟨by decide, by decide⟩)) ev_c (rv_I (by show (0 : Int) < 13; decide))) (congrArg V.int hLe)) ea_nil) ⟨by omega, by omega⟩ (fun i σ' H' => ∃ (r5 r6 : Option V) (vs : List Way) (us : List V), σ' = [some (.ref a), some (.int (n : Int)), some (.int (cell ns ((1 : Nat) : Int))), some (.ref po), some (.ref l), r5, r6, none] ∧ H' l = some (.lst us) ∧ Tups H' us (vs.map wayV) ∧ WX n 9999 (ws.length + i) ws vs ∧ Ex H2 H')
      (fun H5 e5 => ⟨r5, r6, ws, us, rfl, e5 _ _ hl4, hT4.ex e5, ⟨hP.ends, hP.del, fun w hw => hw, Nat.le_refl _⟩, e4.trans e5⟩) ?_ ?_
    · rintro i σ' H' hi ⟨r5, r6, vs, us, rfl, hl', hT, hX, e⟩
      have ulen : us.length = vs.length := hT.1.trans (List.length_map _)
      have vlen := hX.len
      generalize hx : mixN (cell ns ((3 + i % 6 : Nat) : Int)) i = x
      refine q_asg (v := .int (x : Int)) (ev_is (cmix _ _ _ _ _ i (ccell ns _ _ _ (3 + i % 6) (ex_l e hS) rfl (ev_is (ev_op ev_c (md _ _ _ _ i 6 (by decide) (ev_var rfl) ev_c) rv_I0) (by rw [Int.natCast_add]; rfl))) (ev_var rfl)) (by rw [hx])) fun H5 e5 => ?_
      have m1 : x % n < n := Nat.mod_lt _ (by omega)
      have m2 : x / 16 % n < n := Nat.mod_lt _ (by omega)
      refine s_appU (l := l) (e5 _ _ hl') (ev_var rfl) (ys := wayV (x % n, x / 16 % n, dby (x / 256))) (eu_tup (ea_cons (md _ _ _ _ x n (by omega) (ev_var rfl) (ev_var rfl)) (ea_cons (md _ _ _ _ _ n (by omega) (dv _ _ _ x 16 (by decide) (by decide) (ev_var rfl)) (ev_var rfl)) (ea_cons (dl _ _ _ (x / 256) trivial (dv _ _ _ x 256 (by decide) (by decide) (ev_var rfl))) ea_nil))) (by show 3 ≤ 100000; decide)) (by omega) fun q2 H6 hq2 e6 h6 => ?_
      refine ⟨_, _, vs ++ [(x % n, x / 16 % n, dby (x / 256))], _, rfl, upd_same, ?_, hX.snoc m1 m2 (dlt _), Ex.mut ((e.trans e5).trans e6) hl⟩
      rw [List.map_append]
      exact ((hT.ex (e5.trans e6)).upd (e6 _ _ (e5 _ _ hl'))).snoc (by rw [upd_ne fun z => by rw [z, e6 _ _ (e5 _ _ hl')] at h6; cases h6]; exact h6)
    rintro σ' H5 ⟨r5', r6', vs, us', rfl, hl5, hT5, hX, e5⟩
    have hXL : (L : Int).toNat = L := Int.toNat_natCast L
    rw [hXL] at hX
    have vlen := hX.len
    have ulen : us'.length = vs.length := hT5.1.trans (List.length_map _)
    have hWeb : WebOk n vs := hP.web hX (by omega) (by decide) n1 n12 (fun z => by show (decide (n = 1) || _) = true; rw [decide_eq_true z]; rfl) hperm
    have vpos : 0 < vs.length := List.length_pos_iff.mpr hWeb.ne
    generalize ht : (cell ns ((2 : Nat) : Int) % (vs.length : Int)).toNat = t
    have hte : cell ns ((2 : Nat) : Int) % (vs.length : Int) = (t : Int) := by
      have := Int.emod_nonneg (cell ns ((2 : Nat) : Int)) (by omega : (vs.length : Int) ≠ 0)
      omega
    refine q_asg (v := .int (t : Int)) (ev_is (ev_op (ccell ns _ _ _ 2 (ex_l e5 hS) rfl ev_c) (ev_len (ev_var rfl) (sq_of hl5)) (rv_I (by show (0 : Int) < (us'.length : Int); omega))) (by rw [ulen]; exact congrArg V.int hte)) fun H6 e6 => ?_
    refine s_retL (el_cat (ew_new (el_sl (ev_var rfl) (eo_some (ev_var rfl)) eo_none (sq_of (e6 _ _ hl5)))) (ew_new (el_sl (ev_var rfl) eo_none (eo_some (ev_var rfl)) (sq_of (e6 _ _ hl5)))) ?_) fun p2 H7 hp2 e7 h7 => ?_
    · rw [cutV_drop, cutV_take, List.length_drop, List.length_take]
      omega
    · have e57 := e6.trans e7
      rw [cutV_drop, cutV_take] at h7
      refine q (vs.drop t ++ vs.take t) p2 H7 (us'.drop t ++ us'.take t) (hWeb.perm (rot_perm vs t)) (fun w hw => hX.del w ((rot_perm vs t).mem_iff.mp hw)) (by rw [(rot_perm vs t).length_eq]; omega) (eN2.trans (LamX.ExtN.of (e5.trans e57))) h7 ?_
      have hT7 := hT5.ex e57
      rw [List.map_append, List.map_drop, List.map_take]
      exact (hT7.drop t).app (hT7.take t)
/-! ### calls with what is new handed on -/
section
variable {K : PySem.W.Frag} {σ : L2.St} {H : Hp} {ta te : TE}
theorem ek_callW {C : Addr} {n : Nat} {ws : List Way} {sp : Sp} {E : XK} {Cc : Hp → VK → Prop} (m : Mo Cc) (h : EvK te σ H (RetW C n ws)) (hs : ∀ p H1, Ex H H1 → WebAt C H1 p n ws → ∀ Q E, Cc H1 Q → sp [.ref p] H1 Q E) : EvK (tCall sp [] E (tCons te tNil)) σ H Cc := fun H1 e Q q =>
  h H1 e _ fun p H2 hp e2 hW => hs p H2 (e.trans e2) hW Q E (m H1 H2 Q e2 q)
theorem ek_listT {p : Addr} {us : List V} {xss : List (List V)} (ha : Ev ta σ H (.ref p)) (hp : H p = some (.lst us)) (hT : Tups H us xss) : EvK (tCB (rListS K) (tCons ta tNil)) σ H (RetT xss) := fun H1 e Q q =>
  (el_list ha (sq_of hp)) H1 e Q fun l H2 hl e2 h2 => q l H2 us hl e2 h2 (hT.ex (e.trans e2))
theorem et_notF {t : TT} {b : Bool} (h : EvT t σ H (!b)) (e : b = true := by rfl) : True := trivial
theorem rv_notN {x : V} : RV rNotN x .non H (.bl (!decide (x = .non))) := fun H1 _ _ q => ⟨rfl, q H1 (Ex.refl H1)⟩
theorem ev_whole {E : XK} {i : Int} (h : Ev te σ H (.int i)) : Ev (tCall sp_law_whole [] E (tCons te tNil)) σ H (.bl true) := ev_callV (ea_cons h ea_nil) fun H2 e2 Q E q => ⟨i, rfl, q⟩
end
/-- the same number over another divisor -/
theorem frac_eq {a b c d : Nat} (hb : 0 < b) (hd : 0 < d) (h : a * d = c * b) : a / Nat.gcd a b = c / Nat.gcd c d ∧ b / Nat.gcd a b = d / Nat.gcd c d := by
  have g1 : 0 < Nat.gcd a b := Nat.gcd_pos_of_pos_right _ hb
  have g2 : 0 < Nat.gcd c d := Nat.gcd_pos_of_pos_right _ hd
  have c1 : Nat.Coprime (a / Nat.gcd a b) (b / Nat.gcd a b) := Nat.coprime_div_gcd_div_gcd g1
  have c2 : Nat.Coprime (c / Nat.gcd c d) (d / Nat.gcd c d) := Nat.coprime_div_gcd_div_gcd g2
  have ea : a / Nat.gcd a b * Nat.gcd a b = a := Nat.div_mul_cancel (Nat.gcd_dvd_left _ _)
  have eb : b / Nat.gcd a b * Nat.gcd a b = b := Nat.div_mul_cancel (Nat.gcd_dvd_right _ _)
  have ec : c / Nat.gcd c d * Nat.gcd c d = c := Nat.div_mul_cancel (Nat.gcd_dvd_left _ _)
  have ed : d / Nat.gcd c d * Nat.gcd c d = d := Nat.div_mul_cancel (Nat.gcd_dvd_right _ _)
  generalize Nat.gcd a b = g at *
  generalize Nat.gcd c d = k at *
  generalize a / g = a' at *
  generalize b / g = b' at *
  generalize c / k = c' at *
  generalize d / k = d' at *
  subst ea eb ec ed
  have h2 : a' * d' = c' * b' := by
    have : (a' * d') * (g * k) = (c' * b') * (g * k) := by
      calc (a' * d') * (g * k) = a' * g * (d' * k) := by ac_rfl
        _ = c' * k * (b' * g) := h
        _ = (c' * b') * (g * k) := by ac_rfl
    exact Nat.eq_of_mul_eq_mul_right (Nat.mul_pos g1 g2) this
  have d1 : b' ∣ d' := by
    have : b' ∣ a' * d' := ⟨c', by rw [h2, Nat.mul_comm]⟩
    exact c1.symm.dvd_of_dvd_mul_left this
  have d2 : d' ∣ b' := by
    have : d' ∣ c' * b' := ⟨a', by rw [← h2, Nat.mul_comm]⟩
    exact c2.symm.dvd_of_dvd_mul_left this
  have e : b' = d' := Nat.dvd_antisymm d1 d2
  have hd' : 0 < d' := Nat.pos_of_mul_pos_right hd
  refine ⟨?_, e⟩
  rw [e] at h2
  exact Nat.eq_of_mul_eq_mul_right hd' h2
/-- what a pace is: as great as each ring's mean -/
theorem pace_ge {n : Nat} {ws : List Way} {r r' : List Nat} {s : List Int} (h : IsStart ws (pnum ws r) (pdiv ws r) s) (hr : IsRing n ws r) (hr' : IsRing n ws r') : ringSum ws r' * r.length ≤ ringSum ws r * r'.length := by
  have h1 := h.ring hr'
  have h2 : pdiv ws r * ringSum ws r' ≤ pnum ws r * r'.length := by
    rw [← Int.natCast_mul, ← Int.natCast_mul] at h1
    omega
  have h3 := Nat.mul_le_mul_right (gcdR ws r) h2
  have e1 : pdiv ws r * ringSum ws r' * gcdR ws r = ringSum ws r' * r.length := by rw [Nat.mul_right_comm, pdiv_mul, Nat.mul_comm]
  have e2 : pnum ws r * r'.length * gcdR ws r = ringSum ws r * r'.length := by rw [Nat.mul_right_comm, pnum_mul]
  rw [e1, e2] at h3
  exact h3
/-! ### each with the one behind it -/
def fcyc (r : List Nat) : List (Nat × Nat) := (List.range r.length).map fun k => (r.getD k 0, r.getD ((k + 1) % r.length) 0)
theorem fcyc_len (r : List Nat) : (fcyc r).length = r.length := by
  unfold fcyc
  rw [List.length_map, List.length_range]
theorem fcyc_get {r : List Nat} {k : Nat} (h : k < r.length) : (fcyc r)[k]? = some (r.getD k 0, r.getD ((k + 1) % r.length) 0) := by
  unfold fcyc
  rw [List.getElem?_map, List.getElem?_range h]
  rfl
theorem cyc_get {r : List Nat} {k : Nat} (h : k < r.length) : (cyc r)[k]? = some (if k = 0 then r.getLastD 0 else r.getD (k - 1) 0, r.getD k 0) := pairsL_get _ _ _ h
theorem fcyc_cyc (r : List Nat) : (fcyc r).Perm (cyc r) := by
  have e : fcyc r = (cyc r).drop 1 ++ (cyc r).take 1 := by
    apply List.ext_getElem?
    intro k
    have hd : ((cyc r).drop 1).length = r.length - 1 := by rw [List.length_drop, cyc_len]
    by_cases h : k + 1 < r.length
    · rw [fcyc_get (by omega), List.getElem?_append_left (by omega), List.getElem?_drop, Nat.add_comm 1 k, cyc_get h, if_neg (by omega), Nat.mod_eq_of_lt h, Nat.add_sub_cancel]
    · by_cases h2 : k < r.length
      · rw [fcyc_get h2, List.getElem?_append_right (by omega), hd, show k - (r.length - 1) = 0 by omega, List.getElem?_take_of_lt (by omega), cyc_get (by omega), if_pos rfl, show k + 1 = r.length by omega, Nat.mod_self, List.getLastD_eq_getLast?, List.getLast?_eq_getElem?, List.getD_eq_getElem?_getD, show r.length - 1 = k by omega]
      · rw [List.getElem?_eq_none (by rw [fcyc_len]; omega), List.getElem?_eq_none (by rw [List.length_append, List.length_drop, List.length_take, cyc_len]; omega)]
  rw [e]
  exact rot_perm _ _
/-! ### the law's sum along a ring -/
def fsum (ws : List Way) (l : List (Nat × Nat)) : Nat := (l.map fun e => dmaxN ws e.1 e.2).sum
theorem fsum_ring (ws : List Way) (r : List Nat) : fsum ws (fcyc r) = ringSum ws r := ((fcyc_cyc r).map fun (e : Nat × Nat) => dmaxN ws e.1 e.2).sum_nat
def isWay (ws : List Way) (r : List Nat) : Prop := ∀ e ∈ fcyc r, e ∈ edges ws
noncomputable def totV (ws : List Way) (r : List Nat) : V := open Classical in if isWay ws r then .int (ringSum ws r : Int) else .non
theorem IsRing.isWay {n : Nat} {ws : List Way} {r : List Nat} (h : IsRing n ws r) : isWay ws r := fun e he => h.way e ((fcyc_cyc r).mem_iff.mp he)
theorem isRing_of {n : Nat} {ws : List Way} {r : List Nat} (h : isWay ws r) (h1 : r ≠ []) (h2 : r.Nodup) (h3 : ∀ x ∈ r, x < n) : IsRing n ws r := ⟨h1, h2, h3, fun e he => h e ((fcyc_cyc r).mem_iff.mpr he)⟩
theorem totV_yes {ws : List Way} {r : List Nat} (h : isWay ws r) : totV ws r = .int (ringSum ws r : Int) := if_pos h
theorem totV_no {ws : List Way} {r : List Nat} (h : ¬ isWay ws r) : totV ws r = .non := if_neg h
/-! ### all of true ones; questions with lists -/
section
variable {K : PySem.W.Frag} {σ : L2.St} {H : Hp} {ta te : TE}
theorem ev_allT {n : Nat} (h : EvL ta σ H ((List.replicate n true).map V.bl)) : Ev (tCB (rAll K) (tCons ta tNil)) σ H (.bl true) := fun H1 e Q q =>
  h H1 e _ fun p H2 hp e2 h2 => ⟨p, List.replicate n true, rfl, sq_of h2, by
    have : (List.replicate n true).all id = true := by simp
    rw [this]
    exact q H2 e2⟩
end
/-! ### calls with a list, standing or new -/
/-- a list of the heap, standing or new -/
def EvS0 (te : TE) (σ : L2.St) (H : Hp) (xs : List V) : Prop := ∀ H1, Ex H H1 → ∀ Q : VK, (∀ a H2, Ex H1 H2 → H2 a = some (.lst xs) → Q (.ref a) H2) → te σ H1 Q
theorem es0_of {te : TE} {σ : L2.St} {H : Hp} {a : Addr} {xs : List V} (h : Ev te σ H (.ref a)) (hx : H a = some (.lst xs)) : EvS0 te σ H xs := fun H1 e Q q => h H1 e Q fun H2 e2 => q a H2 e2 ((e.trans e2) _ _ hx)
theorem es0_new {te : TE} {σ : L2.St} {H : Hp} {xs : List V} (h : EvL te σ H xs) : EvS0 te σ H xs := fun H1 e Q q => h H1 e Q fun p H2 _ e2 h2 => q p H2 e2 h2
theorem ek_settledA {C : Addr} {H : Hp} {p : Addr} {n k : Nat} {ws : List Way} (hW : WebAt C H p n ws) (hw : WebOk n ws) {ts : List Int} (hl : ts.length = n) (hk : k ≤ 1000) {σ : L2.St} {E : XK} {ta tb : TE} {tc : TE} (ha : Ev ta σ H (.ref p)) (hb : EvS0 tb σ H (intV ts)) (hc : ∀ H1, Ex H H1 → Ev tc σ H1 (.int (k : Int))) :
    EvK (tCall (sp_settled C) [] E (tCons ta (tCons tb (tCons tc tNil)))) σ H (StEnd (fun i => shapeT (rowT n ws ts i)) (fun t j => (rowT n ws ts t).getD 0 0 - (rowT n ws ts j).getD 0 0) k) := by
  intro H1 e Q q
  refine ha H1 e _ fun H2 e2 => hb H2 (e.trans e2) _ fun x H3 e3 h3 => hc H3 ((e.trans e2).trans e3) H3 (Ex.refl _) _ fun H4 e4 => ?_
  have e24 := (e2.trans e3).trans e4
  show sp_settled C _ H4 Q E
  exact ⟨p, x, n, k, ws, ts, rfl, hW.ex (e.trans e24), hw, e4 _ _ h3, hl, hk, fun h => mo_v _ _ _ e24 (q.1 h), fun t j a b c d => mo_u _ _ _ e24 (q.2 t j a b c d)⟩
theorem ek_turned {C : Addr} {H : Hp} {p : Addr} {n : Nat} {ws : List Way} (hW : WebAt C H p n ws) (hw : WebOk n ws) {σ : L2.St} {E : XK} {ta : TE} (ha : Ev ta σ H (.ref p)) : EvK (tMeth C "turned" (sp_Web_turned C) [] E ta tNil) σ H (RetW C n (turn ws)) := by
  have hW2 := hW
  obtain ⟨dx, lw, li, vw, vi, h1, _⟩ := hW
  exact ek_meth mo_w ha h1 (turned_no n lw li) ea_nil fun H1 e1 Q E q => ⟨p, n, ws, rfl, hW2.ex e1, hw, q⟩
theorem ek_turns {C : Addr} {H : Hp} {p : Addr} {n k : Nat} {ws : List Way} (hW : WebAt C H p n ws) (hw : WebOk n ws) {ts : List Int} (hl : ts.length = n) (hk : k ≤ 1000) {σ : L2.St} {E : XK} {ta tb : TE} {tc : TE} (ha : Ev ta σ H (.ref p)) (hb : EvS0 tb σ H (intV ts)) (hc : ∀ H1, Ex H H1 → Ev tc σ H1 (.int (k : Int))) :
    EvK (tMeth C "turns" (sp_Web_turns C) [] E ta (tCons tb (tCons tc tNil))) σ H (RetOs (k + 1) (fun i => .lst (intV (rowT n ws ts i)))) := by
  have hW2 := hW
  obtain ⟨dx, lw, li, vw, vi, h1, _⟩ := hW
  intro H1 e Q q
  refine ha H1 e _ fun H2 e2 => ⟨p, dx, webF n lw li, rfl, (e.trans e2) _ _ h1, turns_no n lw li, ?_⟩
  refine hb H2 (e.trans e2) _ fun x H3 e3 h3 => hc H3 ((e.trans e2).trans e3) H3 (Ex.refl _) _ fun H4 e4 => ?_
  have e24 := (e2.trans e3).trans e4
  show sp_Web_turns C _ H4 Q E
  exact ⟨p, x, n, k, ws, ts, rfl, hW2.ex (e.trans e24), hw, e4 _ _ h3, hl, hk, mo_os _ _ _ e24 q⟩
theorem el_aheadS {C : Addr} {H : Hp} {p : Addr} {n : Nat} {ws : List Way} (hW : WebAt C H p n ws) (hw : WebOk n ws) {ts : List Int} (hl : ts.length = n) {σ : L2.St} {E : XK} {ta tb : TE} (ha : Ev ta σ H (.ref p)) (hb : EvS0 tb σ H (intV ts)) :
    EvL (tMeth C "ahead" (sp_Web_ahead C) [] E ta (tCons tb tNil)) σ H (intV (stepT n ws ts)) := by
  have hW2 := hW
  obtain ⟨dx, lw, li, vw, vi, h1, _⟩ := hW
  intro H1 e Q q
  refine ha H1 e _ fun H2 e2 => ⟨p, dx, webF n lw li, rfl, (e.trans e2) _ _ h1, ahead_no n lw li, ?_⟩
  refine hb H2 (e.trans e2) _ fun x H3 e3 h3 => ?_
  have e23 := e2.trans e3
  show sp_Web_ahead C _ H3 Q E
  exact ⟨p, x, n, ws, ts, rfl, hW2.ex (e.trans e23), hw, h3, hl, mo_l _ _ _ e23 q⟩
/-! ### the law's other questions: what they tell is new, and is emptied -/
section
variable {K : PySem.W.Frag} {σ : L2.St} {H : Hp} {ta tb te tl : TE} {D : Ends} {tz : TS}
theorem s_clear {p : Addr} {ys : List V} (hl : H p = some (.lst ys)) (ha : Ev ta σ H (.ref p)) (k : ∀ H1, Ex H H1 → D.nx σ (upd H1 p (.lst []))) : tDrop (tBM0 K "list" rClear ta) D σ H := ha H (Ex.refl H) _ fun H1 e =>
  ⟨Or.inl ⟨rfl, ys, sq_of (e _ _ hl)⟩, p, ys, rfl, rfl, e _ _ hl, k H1 e⟩
theorem q_clear {p : Addr} {ys : List V} (hl : H p = some (.lst ys)) (ha : Ev ta σ H (.ref p)) (k : ∀ H1, Ex H H1 → tz D σ (upd H1 p (.lst []))) : tSeq (tDrop (tBM0 K "list" rClear ta)) tz D σ H := s_clear (D := { D with nx := tz D }) hl ha k
/-- a new list of which this much is known -/
def ToldX (H0 H : Hp) (l : Addr) (x : V) : Prop := (∃ i, x = .int i) ∨ ∃ p, x = .ref p ∧ ((H0 p = none ∧ p ≠ l ∧ ∃ ys, H p = some (.lst ys)) ∨ ∃ t, H p = some (.tup t))
def Told (H0 H : Hp) (l : Addr) : Prop := H0 l = none ∧ ∃ xs, H l = some (.lst xs) ∧ ∀ x ∈ xs, ToldX H0 H l x
theorem ToldX.ex {H0 H H' : Hp} {l : Addr} {x : V} (e : Ex H H') (h : ToldX H0 H l x) : ToldX H0 H' l x := by
  rcases h with h | ⟨p, h1, ⟨h2, h3, ys, h4⟩ | ⟨t, h4⟩⟩
  · exact .inl h
  · exact .inr ⟨p, h1, .inl ⟨h2, h3, ys, e _ _ h4⟩⟩
  · exact .inr ⟨p, h1, .inr ⟨t, e _ _ h4⟩⟩
theorem Told.ex {H0 H H' : Hp} {l : Addr} (e : Ex H H') (h : Told H0 H l) : Told H0 H' l := by
  obtain ⟨h1, xs, h2, h3⟩ := h
  exact ⟨h1, xs, e _ _ h2, fun x hx => (h3 x hx).ex e⟩
theorem told_ints {H0 H : Hp} {l : Addr} {is : List Int} (h0 : H0 l = none) (h : H l = some (.lst (is.map V.int))) : Told H0 H l := ⟨h0, _, h, fun x hx => by
  obtain ⟨i, _, rfl⟩ := List.mem_map.mp hx
  exact .inl ⟨i, rfl⟩⟩
/-- pace(web)[2], [3] -/
theorem ek_ixPace {n : Nat} {ws : List Way} {i : Int} (h : EvK ta σ H (RetP n ws)) (hb : ∀ H1, Ex H H1 → Ev tb σ H1 (.int i)) (hi : i = 2 ∨ i = 3) :
    EvK (tOp (rIxT K) ta tb) σ H (fun H1 Q => ∀ l H2, H1 l = none → Ex H1 H2 → (∃ is : List Int, H2 l = some (.lst (is.map V.int))) → Q (.ref l) H2) := fun H1 e Q q =>
  h H1 e _ fun t lr ls H2 ht h1 h2 e2 hP => hb H2 (e.trans e2) H2 (Ex.refl _) _ fun H3 e3 => by
    obtain ⟨r, s, _, _, _, _, p5, p6, p7⟩ := hP
    rcases hi with rfl | rfl
    · exact ⟨t, _, 2, .ref lr, rfl, rfl, st_of (e3 _ _ p5), rfl, q lr H3 h1 (e2.trans e3) ⟨_, by rw [← natV_int]; exact e3 _ _ p6⟩⟩
    · exact ⟨t, _, 3, .ref ls, rfl, rfl, st_of (e3 _ _ p5), rfl, q ls H3 h2 (e2.trans e3) ⟨s, e3 _ _ p7⟩⟩
/-- [x for x in slower(..) if x is not None] -/
theorem ek_lcSl {n j : Nat} {ws : List Way} {p q : Int} (h : EvK tl σ H (RetSl n ws p q)) (hw : ∀ x, wipe ((wipe σ [j]).set j (some x)) [j] = wipe σ [j]) (hg : ∀ x, ((wipe σ [j]).set j (some x))[j]? = some (some x)) :
    EvK (tLc (iTup K tl) (gName j) (tTest (tOp rNotN (tVar j) (tC .non))) (tVar j) [j]) σ H (fun H1 Q => ∀ D l H2, H1 D = none → H1 l = none → l ≠ D → Ex H1 H2 → H2 D = some (.lst [.ref l]) → (∃ ys, H2 l = some (.lst ys)) → Q (.ref D) H2) := fun H0 e Q qq =>
  h H0 e _ fun t l H1 ht hl e1 hS => by
    have key : ∀ (xs : List V) (f : Nat → Bool), H1 t = some (.tup xs) → (∃ ys, H1 l = some (.lst ys)) → (∀ i x, xs[i]? = some x → (x = .non ∧ f i = false) ∨ (x = .ref l ∧ f i = true)) → given xs.length f (fun _ => .ref l) = [.ref l] → xs.length ≤ 10 → tLc (iTup K tl) (gName j) (tTest (tOp rNotN (tVar j) (tC .non))) (tVar j) [j] σ H0 Q → True := fun _ _ _ _ _ _ _ _ => trivial
    have go : ∀ (xs : List V) (f : Nat → Bool), H1 t = some (.tup xs) → (∃ ys, H1 l = some (.lst ys)) → (∀ i x, xs[i]? = some x → (x = .non ∧ f i = false) ∨ (x = .ref l ∧ f i = true)) → given xs.length f (fun _ => .ref l) = [.ref l] → xs.length ≤ 10 →
        ∀ Dl, H1 Dl = none → ∃ W : Nat → Nat → Hp → Prop, (∃ m, W 0 m (upd H1 Dl (.lst []))) ∧ ∀ i m H, W i m H → ((Itt K t).stop i H ∧ Q (.ref Dl) H) ∨ ((Itt K t).go i H ∧ ∃ Nx : Hp → Prop, (∀ H', Nx H' → ∃ m', m' < m ∧ W (i + 1) m' H') ∧ ∀ x H', (Itt K t).yld i H x H' → gName j x (wipe σ [j]) H' fun σ2 H2 => wipe σ2 [j] = wipe σ [j] ∧ tTest (tOp rNotN (tVar j) (tC .non)) σ2 H2 fun b H3 =>
          if b = true then tVar j σ2 H3 fun y H4 => ∃ acc, H4 Dl = some (.lst acc) ∧ acc.length < sizeLine ∧ Nx (upd H4 Dl (.lst (acc ++ [y]))) else Nx H3) := fun xs f hx ⟨ys, hys⟩ hf hgv hlen Dl hD =>
      lc_tup (xs := xs) (Cw H1 f (fun _ => .ref l) Dl) ⟨hD, Ex.new hD, upd_same⟩ (fun i H' _ p => ex_t p.2.1 (st_of hx)) (fun i x H' hi p => by
        refine ⟨hw x, cw_turn p (by have := (List.getElem?_eq_some_iff.mp hi).1; omega) ?_ ?_⟩
        · rcases hf i x hi with ⟨rfl, e0⟩ | ⟨rfl, e0⟩
          · rw [e0]
            exact et_is (et_test (ev_op (ev_var (hg _)) ev_c rv_notN)) rfl
          · rw [e0]
            exact et_is (et_test (ev_op (ev_var (hg _)) ev_c rv_notN)) rfl
        · intro e0
          rcases hf i x hi with ⟨rfl, e1⟩ | ⟨rfl, e1⟩
          · rw [e0] at e1
            cases e1
          · exact ev_var (hg _)) (fun H' p => qq Dl l H' (fresh_back e1 hD) hl (fun z => by rw [z, hD] at hys; cases hys) (e1.trans p.2.1) (by have h3 := p.2.2; rw [hgv] at h3; exact h3) ⟨ys, p.2.1 _ _ hys⟩)
    rcases hS with ⟨s, _, _, s3, s4⟩ | ⟨r, _, _, _, s4, s5⟩
    · exact ⟨t, rfl, ⟨_, st_of s3⟩, go _ (fun i => decide (i = 1)) s3 ⟨_, s4⟩ (fun i x hi => by
        match i, hi with
        | 0, hi => exact .inl ⟨(Option.some.inj hi).symm, rfl⟩
        | 1, hi => exact .inr ⟨(Option.some.inj hi).symm, rfl⟩) rfl (by show 2 ≤ 10; decide)⟩
    · exact ⟨t, rfl, ⟨_, st_of s4⟩, go _ (fun i => decide (i = 0)) s4 ⟨_, s5⟩ (fun i x hi => by
        match i, hi with
        | 0, hi => exact .inr ⟨(Option.some.inj hi).symm, rfl⟩
        | 1, hi => exact .inl ⟨(Option.some.inj hi).symm, rfl⟩) rfl (by show 2 ≤ 10; decide)⟩
/-- web.turned().ways[:0] -/
theorem el_waysNone {C : Addr} {n : Nat} {ws : List Way} (h : EvK ta σ H (RetW C n ws)) (hc : Cls K C) (hn : NoAttr K C "ways") : EvL (tSl (rSlL K) (tFld K ta "ways") tNoPart (tPart (tC (.int 0)))) σ H [] := fun H1 e Q q =>
  h H1 e _ fun p H2 hp e2 hW => by
    obtain ⟨dx, lw, li, vw, vi, h1, h2, _⟩ := hW
    refine ⟨p, C, dx, webF n lw li, .ref lw, rfl, h1, hc, hn, webF_ways n lw li, ?_⟩
    refine ⟨0, rfl, lw, vw, rfl, sq_of h2, fun l hl => ?_⟩
    have e0 : cutV vw none (some 0) = [] := (cutV_take vw 0).trans rfl
    rw [e0]
    exact q l _ (fresh_back e2 hl) (e2.trans (Ex.new hl)) upd_same
/-- settled(..): whatever it tells -/
theorem StEnd.any {f : Nat → List Int} {g : Nat → Nat → Int} {most : Nat} {H : Hp} {Q : VK} (h : ∀ v H2, Ex H H2 → Q v H2) : StEnd f g most H Q := ⟨fun _ H2 e => h _ H2 e, fun _ _ _ _ _ _ _ H2 _ e _ => h _ H2 e⟩
end
theorem isi_tupF {K : PySem.W.Frag} {σ : L2.St} {H : Hp} {ta : TE} {p : Addr} {xs : List V} (ha : Ev ta σ H (.ref p)) (h : H p = some (.tup xs)) : Ev (tCB (rIsi K) (tCons ta (tCons (tC (.ty "list")) tNil))) σ H (.bl false) := isi_tup ha h
def sp_law_stirred (C : Addr) : Sp := fun vs H Q _ => ∃ (p a : Addr) (n : Nat) (ws : List Way) (ts : List Int) (c : Int), vs = [.ref p, .ref a, .int c] ∧ WebAt C H p n ws ∧ WebOk n ws ∧ H a = some (.lst (intV ts)) ∧ ts.length = n ∧ RetV (.bl true) H Q
abbrev s_law_stirred : Stmt := (top 39)
abbrev N_law_stirred : List Str := ["_law_web", "_law_times", "_law_cell", "_law_way", "_law_told_here", "_law_row"]
theorem sc_law_stirred : FnScope N_law_stirred ["_law_web", "_law_times", "_law_cell"] (defScope s_law_stirred) := ⟨rfl, rfl, rfl, by decide +kernel, rfl, by decide +kernel, by decide +kernel⟩

theorem ok_law_stirred (T : Txt K mg) : FnOk P w K mg base CX0 6 T.a_law_stirred T.d_law_stirred ["_law_web", "_law_times", "_law_cell"] (sp_law_stirred T.a_Web) := by
  refine okN T.F_law_stirred sc_law_stirred (fun vs H Q E h => ?_) (fun cdv A outer s H vs Q E HR h => ?_)
  · obtain ⟨p, a, n, ws, ts, c, rfl, _⟩ := h
    rfl
  · obtain ⟨p, a, n, ws, ts, c, rfl, hW, hw, ha, htl, q⟩ := h
    have n1 := hw.n1
    have n12 := hw.n12
    have m8 : (0 : Int) < 8 := by decide
    have m3 : (0 : Int) < 3 := by decide
    have m7 : (0 : Int) < 7 := by decide
    have m2 : (0 : Int) < 2 := by decide
    have m50 : (0 : Int) < 50 := by decide
    have m5 : (0 : Int) < 5 := by decide
    have d8 : CDiv c 8 := ⟨by decide, by decide⟩
    have d400 : CDiv c 400 := ⟨by decide, by decide⟩
    have wayIs : ∀ k : Int, ∀ (σ : L2.St) (H1 : Hp), σ[3]? = some (some (.int (c % 8))) → EvT (tTest (tOp rEq (tVar 3) (tC (.int k)))) σ H1 (decide (c % 8 = k)) := fun k σ H1 h => et_is (et_test (ev_op (ev_var h) ev_c (rv_eq rfl))) (decide_eq_decide.mpr ⟨fun z => V.int.inj z, fun z => congrArg V.int z⟩)
    have rest8 : ∀ m : Nat, 0 < m → ∃ k : Nat, k < m ∧ c / 8 % (m : Int) = (k : Int) := fun m h => by
      have h1 := Int.emod_nonneg (c / 8) (by omega : (m : Int) ≠ 0)
      have h2 := Int.emod_lt_of_pos (c / 8) (by omega : (0 : Int) < (m : Int))
      exact ⟨(c / 8 % (m : Int)).toNat, by omega, by omega⟩
    have lst : ∀ (σ : L2.St) (H1 : Hp), Ex H H1 → σ[1]? = some (some (.ref a)) → EvS0 (tCB (rListS K) (tCons (tVar 1) tNil)) σ H1 (intV ts) := fun σ H1 e h => es0_new (el_list (ev_var h) (sq_of (e _ _ ha)))
    refine ⟨_, (pss_cons (ps_set (i := 3) sc_law_stirred.nd rfl (by first | exact Or.inl rfl | exact Or.inr rfl) (pe_op op_mod (pv 2) pe_int))
  (pss_cons (ps_set (i := 4) sc_law_stirred.nd rfl (by first | exact Or.inl rfl | exact Or.inr rfl) (pe_lst pa_nil))
  (Evl.pss_cut (ps_if (pt_cmpR op_eq (pv 3) pe_int (nomark _))
  (pss_one (ps_set (i := 4) sc_law_stirred.nd rfl (by first | exact Or.inl rfl | exact Or.inr rfl) (pe_meth (pv 0) T.cl_Web T.m_Web_ahead (ok_Web_ahead T) (HR.mono (by decide)) T.b_Web_ahead .nil pass0 (pa_cons (pe_callTy call_list_of (by rfl) T.n_list (by decide +kernel) (pa_cons (pv 1) pa_nil)) pa_nil)))) pss_nil)
  (Evl.pss_cut (ps_if (pt_cmpR op_eq (pv 3) pe_int (nomark _))
  (pss_one (ps_set (i := 4) sc_law_stirred.nd rfl (by first | exact Or.inl rfl | exact Or.inr rfl) (pe_meth (pv 0) T.cl_Web T.m_Web_turns (ok_Web_turns T) (HR.mono (by decide)) T.b_Web_turns .nil pass0 (pa_cons (pe_callTy call_list_of (by rfl) T.n_list (by decide +kernel) (pa_cons (pv 1) pa_nil)) (pa_cons (pe_op op_add pe_int (pe_op op_mod (pe_op op_fdiv (pv 2) pe_int) pe_int)) pa_nil))))) pss_nil)
  (Evl.pss_cut (ps_if (pt_cmpR op_eq (pv 3) pe_int (nomark _))
  (pss_one (ps_expr (pe_call (ok_settled T) (HR.mono (by decide)) (by rfl) T.g_settled T.F_settled.kp T.b_settled .nil pass0 (pa_cons (pv 0) (pa_cons (pe_callTy call_list_of (by rfl) T.n_list (by decide +kernel) (pa_cons (pv 1) pa_nil)) (pa_cons (pe_op op_mod (pe_op op_fdiv (pv 2) pe_int) pe_int) pa_nil)))))) pss_nil)
  (Evl.pss_cut (ps_if (pt_cmpR op_eq (pv 3) pe_int (nomark _))
  (pss_one (ps_set (i := 4) sc_law_stirred.nd rfl (by first | exact Or.inl rfl | exact Or.inr rfl) (pe_ix ix_tup (pe_call (ok_pace T) (HR.mono (by decide)) (by rfl) T.g_pace T.F_pace.kp T.b_pace .nil pass0 (pa_cons (pv 0) pa_nil)) (pe_op op_add pe_int (pe_op op_mod (pe_op op_fdiv (pv 2) pe_int) pe_int)) (fun _ _ => rfl)))) pss_nil)
  (Evl.pss_cut (ps_if (pt_cmpR op_eq (pv 3) pe_int (nomark _))
  (pss_one (ps_setLc (i := 4) (g := (gName 5)) (tt := (tTest (tOp rNotN (tVar 5) (tC .non)))) (te := (tVar 5)) (own := [("_law_row", 5)]) rfl sc_law_stirred.nd rfl rfl (sw_true rfl rfl rfl (by decide +kernel)) (pi_tup (pe_call (ok_slower T) (HR.mono (by decide)) (by rfl) T.g_slower T.F_slower.kp T.b_slower .nil pass0 (pa_cons (pv 0) (pa_cons (pe_op op_mod (pe_op op_fdiv (pv 2) pe_int) pe_int) (pa_cons (pe_op op_add pe_int (pe_op op_mod (pe_op op_fdiv (pv 2) pe_int) pe_int)) pa_nil))))) (blkOk_by (own := [("_law_row", 5)]) (N := N_law_stirred) (sc := defScope s_law_stirred) (by decide +kernel)) (fun _ _ _ _ _ => (pg_name (i := 5) sc_law_stirred.nd rfl (by first | exact Or.inl rfl | exact Or.inr rfl))) (fun _ _ _ _ _ => (pts_one (pt_cmpR op_notN1 (pv 5) pe_non (nomark _)))) (fun _ _ _ _ _ => (pv 5)))) pss_nil)
  (Evl.pss_cut (ps_if (pt_cmpR op_eq (pv 3) pe_int (nomark _))
  (pss_one (ps_set (i := 4) sc_law_stirred.nd rfl (by first | exact Or.inl rfl | exact Or.inr rfl) (pe_meth (pv 0) T.cl_Web T.m_Web_into (ok_Web_into T) (HR.mono (by decide)) T.b_Web_into .nil pass0 (pa_cons (pe_op op_mod (pe_op op_fdiv (pv 2) pe_int) (pe_callB call_len_seq (by rfl) T.n_len boot_len (pa_cons (pv 1) pa_nil))) pa_nil)))) pss_nil)
  (Evl.pss_cut (ps_if (pt_cmpR op_eq (pv 3) pe_int (nomark _))
  (pss_one (ps_set (i := 4) sc_law_stirred.nd rfl (by first | exact Or.inl rfl | exact Or.inr rfl) (pe_slice sl_list (pe_fld (pe_meth0 (pv 0) T.cl_Web T.m_Web_turned (ok_Web_turned T) (HR.mono (by decide)) T.b_Web_turned .nil pass0) rfl) po_none (po_some pe_int)))) pss_nil)
  (pss_cons (ps_for PassesOwn.never rfl (pi_list (pv 4)) (pg_name (i := 5) sc_law_stirred.nd rfl (by first | exact Or.inl rfl | exact Or.inr rfl))
  (pss_one (ps_if (pt_val (pe_callB call_isi (by rfl) T.n_isinstance (by decide +kernel) (pa_cons (pv 5) (pa_cons (pe_bltn (v := .ty "list") (by rfl) T.n_list (by decide +kernel) rfl) pa_nil))))
  (pss_one (ps_expr (pe_bm0 PySem.F.plainAttrs_list PySem.F.slot_list_clear PySem.F.type_list_clear mt_clear (pv 5)))) pss_nil)))
  (pss_cons (ps_expr (pe_bm0 PySem.F.plainAttrs_list PySem.F.slot_list_clear PySem.F.type_list_clear mt_clear (pv 4)))
  (pss_one (ps_ret pe_bl))))))))))))), ?_⟩
    let M : L2.St → Hp → Prop := fun σ' H' => ∃ (l : Addr) (r5 : Option V), σ' = [some (.ref p), some (.ref a), some (.int c), some (.int (c % 8)), some (.ref l), r5] ∧ Told H H' l ∧ Ex H H'
    refine q_asg (ev_op (ev_var rfl) ev_c (rv_I m8)) fun H1 e1 => ?_
    refine q_asgL (xs := []) (el_lst ea_nil (by simp)) fun l0 H2 hl0 e2 h2 => ?_
    have e02 := e1.trans e2
    have told0 : Told H H2 l0 := told_ints (is := []) (fresh_back e1 hl0) h2
    refine q_cut (M := M) (s_when (wayIs 1 _ _ rfl) (fun _ H3 e3 => ?_) (fun _ H3 e3 => ⟨l0, _, rfl, told0.ex e3, e02.trans e3⟩)) ?_
    · have eX := e02.trans e3
      exact s_asgL (el_aheadS (hW.ex eX) hw htl (ev_var rfl) (lst _ _ eX rfl)) fun l H4 hl e4 h4 => ⟨l, _, rfl, told_ints (fresh_back eX hl) h4, eX.trans e4⟩
    rintro _ H3 ⟨l, r5, rfl, hl, eX⟩
    refine q_cut (M := M) (s_when (wayIs 2 _ _ rfl) (fun _ H4 e4 => ?_) (fun _ H4 e4 => ⟨l, _, rfl, hl.ex e4, eX.trans e4⟩)) ?_
    · have eY := eX.trans e4
      obtain ⟨k, hk, hke⟩ := rest8 3 (by decide)
      refine s_asgK (ek_turns (k := 1 + k) (hW.ex eY) hw htl (by omega) (ev_var rfl) (lst _ _ eY rfl) fun H5 e5 => ev_is (ev_op ev_c (ev_op (ev_op (ev_var rfl) ev_c (rv_I d8)) ev_c (rv_I m3)) rv_I0) (congrArg V.int (by
        have h : c / 8 % 3 = (k : Int) := hke
        show 1 + c / 8 % 3 = ((1 + k : Nat) : Int)
        omega))) fun D H5 ps hD e5 h5 hN => ⟨D, _, rfl, ⟨fresh_back eY hD, _, h5, fun x hx => ?_⟩, eY.trans e5⟩
      obtain ⟨x2, hx2, rfl⟩ := List.mem_map.mp hx
      obtain ⟨i, hi⟩ := List.mem_iff_getElem?.mp hx2
      exact .inr ⟨x2, rfl, .inl ⟨fresh_back eY (hN.fresh x2 hx2), fun z => hN.out (by rw [← z]; exact hx2), _, hN.at_ i x2 hi⟩⟩
    rintro _ H4 ⟨l, r5, rfl, hl, eX⟩
    refine q_cut (M := M) (s_when (wayIs 3 _ _ rfl) (fun _ H5 e5 => ?_) (fun _ H5 e5 => ⟨l, _, rfl, hl.ex e5, eX.trans e5⟩)) ?_
    · have eY := eX.trans e5
      obtain ⟨k, hk, hke⟩ := rest8 7 (by decide)
      refine s_dropK (ek_settledA (k := k) (hW.ex eY) hw htl (by omega) (ev_var rfl) (lst _ _ eY rfl) fun H6 e6 => ev_is (ev_op (ev_op (ev_var rfl) ev_c (rv_I d8)) ev_c (rv_I m7)) (congrArg V.int hke)) (StEnd.any fun v H6 e6 => ⟨l, _, rfl, (hl.ex e5).ex e6, eY.trans e6⟩)
    rintro _ H5 ⟨l, r5, rfl, hl, eX⟩
    refine q_cut (M := M) (s_when (wayIs 4 _ _ rfl) (fun _ H6 e6 => ?_) (fun _ H6 e6 => ⟨l, _, rfl, hl.ex e6, eX.trans e6⟩)) ?_
    · have eY := eX.trans e6
      refine s_asgK (ek_ixPace (i := 2 + c / 8 % 2) (EvA.toCall mo_p (ea_cons (ev_var rfl) ea_nil) fun H7 e7 Q E k => ⟨p, n, ws, rfl, hW.ex (eY.trans e7), hw, k⟩) (fun H7 e7 => ev_op ev_c (ev_op (ev_op (ev_var rfl) ev_c (rv_I d8)) ev_c (rv_I m2)) rv_I0) (by
        have h1 := Int.emod_nonneg (c / 8) (by decide : (2 : Int) ≠ 0)
        have h2 := Int.emod_lt_of_pos (c / 8) m2
        omega)) fun l2 H7 hl2 e7 ⟨is, h7⟩ => ⟨l2, _, rfl, told_ints (fresh_back eY hl2) h7, eY.trans e7⟩
    rintro _ H6 ⟨l, r5, rfl, hl, eX⟩
    refine q_cut (M := M) (s_when (wayIs 5 _ _ rfl) (fun _ H7 e7 => ?_) (fun _ H7 e7 => ⟨l, _, rfl, hl.ex e7, eX.trans e7⟩)) ?_
    · have eY := eX.trans e7
      have h0 := Int.emod_nonneg (c / 8) (by decide : (50 : Int) ≠ 0)
      have h1 := Int.emod_nonneg (c / 400) (by decide : (5 : Int) ≠ 0)
      have h2 := Int.emod_lt_of_pos (c / 400) m5
      have hb : (1 + c / 400 % 5).natAbs < 2 ^ 200 := by
        have : (10 : Nat) < 2 ^ 200 := by decide
        omega
      refine s_asgK (ek_lcSl (j := 5) (n := n) (ws := ws) (p := c / 8 % 50) (q := 1 + c / 400 % 5) (EvA.toCall mo_sl (ea_cons (ev_var rfl) (ea_cons (ev_op (ev_op (ev_var rfl) ev_c (rv_I d8)) ev_c (rv_I m50)) (ea_cons (ev_op ev_c (ev_op (ev_op (ev_var rfl) ev_c (rv_I d400)) ev_c (rv_I m5)) rv_I0) ea_nil))) fun H8 e8 Q E k => ⟨p, n, ws, _, _, rfl, hW.ex (eY.trans e8), hw, h0, by omega, hb, k⟩) (fun x => rfl) (fun x => rfl)) fun D l2 H8 hD hl2 hne e8 h8 h8l => ⟨D, _, rfl, ⟨fresh_back eY hD, _, h8, fun x hx => ?_⟩, eY.trans e8⟩
      rw [List.mem_singleton.mp hx]
      exact .inr ⟨l2, rfl, .inl ⟨fresh_back eY hl2, hne, h8l⟩⟩
    rintro _ H7 ⟨l, r5, rfl, hl, eX⟩
    refine q_cut (M := M) (s_when (wayIs 6 _ _ rfl) (fun _ H8 e8 => ?_) (fun _ H8 e8 => ⟨l, _, rfl, hl.ex e8, eX.trans e8⟩)) ?_
    · have eY := eX.trans e8
      obtain ⟨k, hk, hke⟩ := rest8 n (by omega)
      obtain ⟨vm, k3, hev⟩ := el_into (hW.ex eY) (m := k) hk
      refine s_asgL (hev H8 _ _ _ _ (Ex.refl _) (ev_var rfl) (ea_cons (ev_is (ev_op (ev_op (ev_var rfl) ev_c (rv_I d8)) (ev_is (ev_len (ev_var rfl) (sq_of (eY _ _ ha))) (by rw [intV_len, htl])) (rv_I (by show (0 : Int) < (n : Int); omega))) (congrArg V.int hke)) ea_nil)) fun l2 H9 hl2 e9 h9 => ⟨l2, _, rfl, ⟨fresh_back eY hl2, _, h9, fun x hx => ?_⟩, eY.trans e9⟩
      obtain ⟨i, hi⟩ := List.mem_iff_getElem?.mp hx
      obtain ⟨p2, xv, rfl, _, hp2⟩ := (k3.ex e9).at hi
      exact .inr ⟨p2, rfl, .inr ⟨_, hp2⟩⟩
    rintro _ H8 ⟨l, r5, rfl, hl, eX⟩
    refine q_cut (M := M) (s_when (wayIs 7 _ _ rfl) (fun _ H9 e9 => ?_) (fun _ H9 e9 => ⟨l, _, rfl, hl.ex e9, eX.trans e9⟩)) ?_
    · have eY := eX.trans e9
      exact s_asgL (el_waysNone (ek_turned (hW.ex eY) hw (ev_var rfl)) T.cl_Web T.na_ways) fun l2 H10 hl2 e10 h10 => ⟨l2, _, rfl, told_ints (is := []) (fresh_back eY hl2) h10, eY.trans e10⟩
    rintro _ H9 ⟨l, r5, rfl, ⟨hl0', xs, hxs, hall⟩, eX⟩
    refine q_forL (a := l) (xs := xs) (ev_var rfl) (sq_of hxs) (fun i σ' H' => ∃ r5 : Option V, σ' = [some (.ref p), some (.ref a), some (.int c), some (.int (c % 8)), some (.ref l), r5] ∧ H' l = some (.lst xs) ∧ (∀ x ∈ xs, ToldX H H' l x) ∧ Ex H H') (fun H10 e10 => ⟨r5, rfl, e10 _ _ hxs, fun x hx => (hall x hx).ex e10, eX.trans e10⟩) (fun i σ' H' _ ⟨_, _, h, _⟩ => sq_of h) ?_ ?_
    · rintro i x σ' H' hx ⟨r5, rfl, hl', hall', e⟩
      rcases hall' x (List.mem_of_getElem? hx) with ⟨j, rfl⟩ | ⟨p2, rfl, ⟨hf, hne, ys, hys⟩ | ⟨t, ht⟩⟩
      · exact s_when (b := false) (et_B (isi_int (ev_var rfl))) (fun z => by cases z) fun _ H10 e10 => ⟨_, rfl, e10 _ _ hl', fun x hx => (hall' x hx).ex e10, e.trans e10⟩
      · refine s_when (b := true) (et_B (isi_lst (ev_var rfl) hys)) (fun _ H10 e10 => ?_) (fun z => by cases z)
        refine s_clear (e10 _ _ hys) (ev_var rfl) fun H11 e11 => ?_
        have e1011 := e10.trans e11
        refine ⟨_, rfl, by rw [upd_ne (Ne.symm hne)]; exact e1011 _ _ hl', fun x hx => ?_, Ex.mut (e.trans e1011) hf⟩
        rcases (hall' x hx).ex e1011 with h | ⟨p3, h1, ⟨h2, h3, zs, h4⟩ | ⟨t, h4⟩⟩
        · exact .inl h
        · refine .inr ⟨p3, h1, .inl ⟨h2, h3, ?_⟩⟩
          by_cases z : p3 = p2
          · exact ⟨[], by rw [z, upd_same]⟩
          · exact ⟨zs, by rw [upd_ne z]; exact h4⟩
        · refine .inr ⟨p3, h1, .inr ⟨t, ?_⟩⟩
          rw [upd_ne fun z => by rw [z, e1011 _ _ hys] at h4; cases h4]
          exact h4
      · exact s_when (b := false) (et_B (isi_tupF (ev_var rfl) ht)) (fun z => by cases z) fun _ H10 e10 => ⟨_, rfl, e10 _ _ hl', fun x hx => (hall' x hx).ex e10, e.trans e10⟩
    · rintro σ' H' ⟨r5, rfl, hl', hall', e⟩
      refine q_clear hl' (ev_var rfl) fun H10 e10 => ?_
      exact s_ret ev_c fun H11 e11 => q H11 ((Ex.mut (e.trans e10) hl0').trans e11)
/-! ### lists of rows -/
/-- the lists at ps hold these rows -/
def RowsAt (H : Hp) (ps : List Addr) (n : Nat) (f : Nat → List Int) : Prop := ps.length = n ∧ ∀ k p, ps[k]? = some p → H p = some (.lst (intV (f k)))
theorem RowsAt.ex {H H' : Hp} {ps : List Addr} {n : Nat} {f : Nat → List Int} (e : Ex H H') (h : RowsAt H ps n f) : RowsAt H' ps n f := ⟨h.1, fun k p hk => e _ _ (h.2 k p hk)⟩
theorem RowsAt.of {H H' : Hp} {D : Addr} {n : Nat} {f : Nat → List Int} {ps : List Addr} (h : NewObjs H H' D n (fun i => .lst (intV (f i))) ps) : RowsAt H' ps n f := ⟨h.len, fun k p hk => h.at_ k p hk⟩
theorem RowsAt.get {H : Hp} {ps : List Addr} {n : Nat} {f : Nat → List Int} (h : RowsAt H ps n f) {k : Nat} (hk : k < n) : ∃ p, ps[k]? = some p ∧ (ps.map V.ref)[k]? = some (.ref p) ∧ H p = some (.lst (intV (f k))) := by
  obtain ⟨p, hp⟩ : ∃ p, ps[k]? = some p := ⟨ps[k]'(by rw [h.1]; exact hk), List.getElem?_eq_getElem _⟩
  exact ⟨p, hp, by rw [List.getElem?_map, hp]; rfl, h.2 k p hp⟩
theorem ev_allWhole {K : PySem.W.Frag} {σ : L2.St} {H : Hp} {tl : TE} {j : Nat} {p : Addr} {xs : List Int} (h : Ev tl σ H (.ref p)) (hp : H p = some (.lst (intV xs))) (hl : xs.length ≤ 1000) (hw : ∀ x, wipe ((wipe σ [j]).set j (some x)) [j] = wipe σ [j]) (hg : ∀ x, ((wipe σ [j]).set j (some x))[j]? = some (some x)) :
    Ev (tCB (rAll K) (tCons (tLc (iList K tl) (gName j) tYes (tCall sp_law_whole [] E0 (tCons (tVar j) tNil)) [j]) tNil)) σ H (.bl true) := by
  refine ev_allT (n := xs.length) ?_
  have r := el_lcL (K := K) (σ := σ) (H := H) (a := p) (xs := intV xs) (tl := tl) (j := j) (vs := [j]) (t := tYes) (te := tCall sp_law_whole [] E0 (tCons (tVar j) tNil)) (fun _ => true) (fun _ => .bl true) h (sq_of hp) (by rw [intV_len]; omega) hw (fun i x H1 e1 hx => et_true)
    (fun i x H1 e1 hx _ => by
      have hi : i < xs.length := by
        have := (List.getElem?_eq_some_iff.mp hx).1
        rwa [intV_len] at this
      rw [intV_at hi] at hx
      obtain rfl := Option.some.inj hx
      exact ev_whole (ev_var (hg _)))
  rw [given_all, intV_len] at r
  have e : (List.range xs.length).map (fun _ => V.bl true) = (List.replicate xs.length true).map V.bl := by
    rw [List.map_replicate, List.map_const', List.length_range]
  rw [e] at r
  exact r
theorem ev_neLL {K : PySem.W.Frag} {σ : L2.St} {H : Hp} {ta tb : TE} {p q : Addr} {xs ys : List Int} (ha : Ev ta σ H (.ref p)) (hb : Ev tb σ H (.ref q)) (hp : H p = some (.lst (intV xs))) (hq : H q = some (.lst (intV ys))) : Ev (tOp (rNeD K) ta tb) σ H (.bl (!decide (xs = ys))) :=
  ev_op ha hb (by
    have r := rv_neD (K := K) (H := H) (x := .ref p) (y := .ref q) (dp_il hp) (dp_il hq) (shaped_ints _) (shaped_ints _)
    rw [PyData.eqv, eqv_ints] at r
    exact r)
/-! ### the plain law: paces of other webs -/
structure Best (n : Nat) (ws : List Way) (r : List Nat) : Prop where
  ring : IsRing n ws r
  best : ∀ r', IsRing n ws r' → ringSum ws r' * r.length ≤ ringSum ws r * r'.length
theorem Best.uniq {n : Nat} {ws : List Way} {r r' : List Nat} (h : Best n ws r) (h' : Best n ws r') : pnum ws r = pnum ws r' ∧ pdiv ws r = pdiv ws r' :=
  frac_eq h.ring.len.2 h'.ring.len.2 (Nat.le_antisymm (h'.best r h.ring) (h.best r' h'.ring))
theorem PaceAt.best {H : Hp} {t lr ls n : Nat} {ws : List Way} (h : PaceAt H t lr ls n ws) : ∃ r, Best n ws r ∧ H t = some (.tup [.int (pnum ws r : Int), .int (pdiv ws r : Int), .ref lr, .ref ls]) := by
  obtain ⟨r, s, p1, p2, p3, p4, p5, p6, p7⟩ := h
  exact ⟨r, ⟨p1, fun r' hr' => pace_ge p3 p1 hr'⟩, p5⟩
/-- number times length, divisor times sum -/
theorem pcross (ws : List Way) (r : List Nat) : pnum ws r * r.length = pdiv ws r * ringSum ws r := by
  have h1 := pnum_mul ws r
  have h2 := pdiv_mul ws r
  calc pnum ws r * r.length = pnum ws r * (pdiv ws r * gcdR ws r) := by rw [h2]
    _ = pdiv ws r * (pnum ws r * gcdR ws r) := by ac_rfl
    _ = pdiv ws r * ringSum ws r := by rw [h1]
/-! ### greatest delays, by the law's own sieve -/
theorem delsF_eq (ws : List Way) (a b : Nat) : (ws.filter fun w => decide (w.1 = a) && decide (w.2.1 = b)).map (fun w => (w.2.2 : Int)) = dels ws a b := by
  unfold dels inn
  rw [List.filter_map, List.map_map, List.filter_filter]
  rfl
/-! ### lists of ways handed on -/
def RetTw (xss : List (List V)) (H : Hp) (Q : VK) : Prop := ∀ D H2 us, Ex H H2 → H2 D = some (.lst us) → Tups H2 us xss → Q (.ref D) H2
section
variable {K : PySem.W.Frag} {σ : L2.St} {H : Hp} {ta tb te : TE}
theorem ek_weak {xss : List (List V)} (h : EvK te σ H (RetT xss)) : EvK te σ H (RetTw xss) := fun H1 e Q q => h H1 e Q fun D H2 us _ e2 h2 t => q D H2 us e2 h2 t
theorem ek_stand {p : Addr} {us : List V} {xss : List (List V)} (ha : Ev ta σ H (.ref p)) (hp : H p = some (.lst us)) (hT : Tups H us xss) : EvK ta σ H (RetTw xss) := fun H1 e Q q => ha H1 e Q fun H2 e2 => q p H2 us e2 ((e.trans e2) _ _ hp) (hT.ex (e.trans e2))
theorem ek_makeW {C : Addr} {E : XK} {n : Nat} {ws : List Way} (ha : Ev ta σ H (.int (n : Int))) (hb : EvK tb σ H (RetTw (ws.map wayV))) (hw : WebOk n ws) : EvK (tMake C (sp_Web_init C) [] E (tCons ta (tCons tb tNil))) σ H (RetW C n ws) := by
  intro H1 e1 Q q
  refine ha H1 e1 _ fun H2 e2 => hb H2 (e1.trans e2) _ fun D H3 us e3 h3 t3 => ?_
  intro x dx hx hdx hne
  have e13 := e2.trans e3
  have eX : Ex H3 (upd (upd H3 dx (.own x)) x (.ins C dx [])) := by
    intro b o hb
    rw [upd_ne (fun z => by rw [z, hx] at hb; cases hb), upd_ne (fun z => by rw [z, hdx] at hb; cases hb)]
    exact hb
  refine ⟨x, dx, D, n, ws, us, rfl, upd_same, eX _ _ h3, t3.ex eX, hw, fun H' hW hB _ => ⟨rfl, q x H' (fresh_back e13 hx) (fun b o hb => ?_) hW⟩⟩
  have hb3 := e13 _ _ hb
  exact hB b o (eX _ _ hb3) fun z => by rw [z, hx] at hb3; cases hb3
theorem ek_callT {x : V} {xss : List (List V)} {sp : Sp} {E : XK} {Cc : Hp → VK → Prop} (m : Mo Cc) (ha : Ev ta σ H x) (hb : EvK tb σ H (RetTw xss)) (hs : ∀ D us H1, Ex H H1 → H1 D = some (.lst us) → Tups H1 us xss → ∀ Q E, Cc H1 Q → sp [x, .ref D] H1 Q E) :
    EvK (tCall sp [] E (tCons ta (tCons tb tNil))) σ H Cc := fun H1 e Q q =>
  ha H1 e _ fun H2 e2 => hb H2 (e.trans e2) _ fun D H3 us e3 h3 t3 => hs D us H3 ((e.trans e2).trans e3) h3 t3 Q E (m H1 H3 Q (e2.trans e3) q)
/-- [tuple of a, b, d for a, b, d in ways] -/
theorem ek_lcW {g : Way → List V} {ws : List Way} {vw : List V} {tl : TE} {i j k : Nat} {vs : List Nat} (h : EvS K tl σ H vw) (hT : Tups H vw (ws.map wayV)) (hz : ws.length ≤ 40000)
    (hw : ∀ x y z, wipe ((((wipe σ vs).set i (some x)).set j (some y)).set k (some z)) vs = wipe σ vs)
    (he : ∀ w ∈ ws, ∀ H1, Ex H H1 → EvU te ((((wipe σ vs).set i (some (.int (w.1 : Int)))).set j (some (.int (w.2.1 : Int)))).set k (some (.int (w.2.2 : Int)))) H1 (g w)) :
    EvK (tLc (iList K tl) (gTup K 3 (gCons (gName i) (gCons (gName j) (gCons (gName k) gNil)))) tYes te vs) σ H (RetT (ws.map g)) := by
  have hlen : vw.length = ws.length := hT.1.trans (List.length_map _)
  intro H1 e1 Q q
  refine ek_lcS (K := K) (fun n => (((wipe σ vs).set i (some (.int ((ws.getD n (0, 0, 0)).1 : Int)))).set j (some (.int ((ws.getD n (0, 0, 0)).2.1 : Int)))).set k (some (.int ((ws.getD n (0, 0, 0)).2.2 : Int)))) (fun n => .tup (g (ws.getD n (0, 0, 0)))) h (by omega) (fun n x H2 e2 hx Q qq => ?_) (fun n x hx => hw _ _ _) (fun n x H2 e2 hx => et_true) (fun n x H2 e2 hx => ?_) H1 e1 Q ?_
  · obtain ⟨q, w, rfl, hw2, _, hq⟩ := wayV_at (hT.ex e2) hx
    rw [getD_of hw2] at qq
    exact g_tup3 hq qq
  · obtain ⟨q, w, rfl, hw2, hmem, hq⟩ := wayV_at (hT.ex e2) hx
    rw [getD_of hw2]
    have r := he w hmem H2 e2
    exact fun H3 e3 Q q => r H3 e3 Q fun p H4 hp4 e4 h4 => q p H4 hp4 e4 h4
  · intro D H2 ps hD e2 h2 hn
    refine q D H2 _ hD e2 h2 ?_
    have t := tups_new hn
    rw [hlen, map_getD ws (0, 0, 0) g] at t
    exact t
/-- != of two tuples of ints, just made or standing -/
theorem rv_neT {p q : Addr} {xs ys : List Int} (hp : H p = some (.tup (intV xs))) (hq : H q = some (.tup (intV ys))) : RV (rNeD K) (.ref p) (.ref q) H (.bl (!decide (xs = ys))) := by
  have r := rv_neD (K := K) (H := H) (x := .ref p) (y := .ref q) (dp_it hp) (dp_it hq) (shaped_intsT _) (shaped_intsT _)
  rw [PyData.eqv, eqv_ints] at r
  exact r
theorem ev_neTT {xs ys : List Int} (ha : EvU ta σ H (intV xs)) (hb : EvU tb σ H (intV ys)) : Ev (tOp (rNeD K) ta tb) σ H (.bl (!decide (xs = ys))) := ev_opUU ha hb fun p q H1 hp hq e => rv_neT hp hq
theorem ev_neVT {p : Addr} {xs ys : List Int} (ha : Ev ta σ H (.ref p)) (hp : H p = some (.tup (intV xs))) (hb : EvU tb σ H (intV ys)) : Ev (tOp (rNeD K) ta tb) σ H (.bl (!decide (xs = ys))) := ev_opU ha hb fun q H1 hq e => rv_neT (e _ _ hp) hq
end
/-! ### the other questions, asked; ways compared -/
theorem ev_stirred {C : Addr} {σ : L2.St} {H : Hp} {E : XK} {ta tb tc : TE} {p : Addr} {n : Nat} {ws : List Way} {ts : List Int} {c : Int} (hW : WebAt C H p n ws) (hw : WebOk n ws) (hl : ts.length = n) (ha : Ev ta σ H (.ref p)) (hb : EvS0 tb σ H (intV ts)) (hc : ∀ H1, Ex H H1 → Ev tc σ H1 (.int c)) :
    Ev (tCall (sp_law_stirred C) [] E (tCons ta (tCons tb (tCons tc tNil)))) σ H (.bl true) := fun H1 e Q q =>
  ha H1 e _ fun H2 e2 => hb H2 (e.trans e2) _ fun x H3 e3 h3 => hc H3 ((e.trans e2).trans e3) H3 (Ex.refl _) _ fun H4 e4 => by
    have e24 := (e2.trans e3).trans e4
    exact ⟨p, x, n, ws, ts, c, rfl, hW.ex (e.trans e24), hw, e4 _ _ h3, hl, mo_v _ _ _ e24 q⟩
theorem way_inj (a b : Way) (h : [(a.1 : Int), (a.2.1 : Int), (a.2.2 : Int)] = [(b.1 : Int), (b.2.1 : Int), (b.2.2 : Int)]) : a = b := by
  obtain ⟨x, y, z⟩ := a
  obtain ⟨x', y', z'⟩ := b
  injection h with h1 h2
  injection h2 with h2 h3
  injection h3 with h3 _
  simp only at h1 h2 h3
  rw [show x = x' by omega, show y = y' by omega, show z = z' by omega]
/-! ### lists that are changed; equal lists -/
section
variable {K : PySem.W.Frag} {σ : L2.St} {H : Hp} {ta tb te : TE} {D : Ends} {tu tz : TS}
theorem q_extend {l b : Addr} {xs ys : List V} (hl : H l = some (.lst xs)) (hb : H b = some (.lst ys)) (ha : Ev ta σ H (.ref l)) (h : Ev te σ H (.ref b)) (hz : xs.length + ys.length ≤ 100000) (k : ∀ H1, Ex H H1 → tz D σ (upd H1 l (.lst (xs ++ ys)))) :
    tSeq (tDrop (tBM K "list" rExtend ta (tCons te tNil))) tz D σ H := ha H (Ex.refl H) _ fun H1 e1 =>
  ⟨Or.inl ⟨rfl, xs, sq_of (e1 l _ hl)⟩, h H1 e1 _ fun H2 e2 => ⟨l, b, xs, ys, rfl, rfl, (e1.trans e2) _ _ hl, (e1.trans e2) _ _ hb, sz_of hz, k H2 (e1.trans e2)⟩⟩
theorem q_appOs {l : Addr} {xs : List V} {n : Nat} {o : Nat → HO} (hl : H l = some (.lst xs)) (ha : Ev ta σ H (.ref l)) (h : EvK te σ H (RetOs n o)) (hz : xs.length < 100000)
    (k : ∀ Dd H1 H2 ps, Ex H H1 → H1 Dd = none → Ex H1 H2 → H2 Dd = some (.lst (ps.map V.ref)) → NewObjs H1 H2 Dd n o ps → tz D σ (upd H2 l (.lst (xs ++ [.ref Dd])))) :
    tSeq (tDrop (tBM K "list" rAppend ta (tCons te tNil))) tz D σ H := ha H (Ex.refl H) _ fun H1 e1 =>
  ⟨Or.inl ⟨rfl, xs, sq_of (e1 l _ hl)⟩, h H1 e1 _ fun Dd H2 ps hD e2 h2 hN => ⟨l, xs, .ref Dd, rfl, rfl, (e1.trans e2) _ _ hl, sz_lt hz, k Dd H1 H2 ps e1 hD e2 h2 hN⟩⟩
theorem s_notCall {sp : Sp} {vs : List V} {E : XK} {tr : TA} (h : EvA tr σ H vs) (hs : ∀ H1, Ex H H1 → ∀ Q : VK, (∀ H', D.nx σ H' → Q (.bl true) H') → sp vs H1 Q E) : tIfS (tNot (tB (tCall sp [] E tr))) tu tNext D σ H :=
  h H (Ex.refl H) _ fun H1 e1 => by
    show sp (vs ++ []) H1 _ E
    rw [List.append_nil]
    exact hs H1 e1 _ fun H' k => ⟨true, rfl, by
      show if (!true) = true then _ else tNext D σ H'
      rw [if_neg (by decide)]
      exact k⟩
theorem ev_eqLL {p q : Addr} {xs ys : List Int} (ha : Ev ta σ H (.ref p)) (hb : Ev tb σ H (.ref q)) (hp : H p = some (.lst (intV xs))) (hq : H q = some (.lst (intV ys))) : Ev (tOp (rEqD K) ta tb) σ H (.bl (decide (xs = ys))) :=
  ev_op ha hb (by
    have r := rv_eqD (K := K) (H := H) (x := .ref p) (y := .ref q) (dp_il hp) (dp_il hq) (shaped_ints _) (shaped_ints _)
    rw [PyData.eqv, eqv_ints] at r
    exact r)
theorem ev_eqWays {p q : Addr} {us vs : List V} {ws : List Way} (ha : Ev ta σ H (.ref p)) (hb : Ev tb σ H (.ref q)) (hp : H p = some (.lst us)) (hq : H q = some (.lst vs)) (h1 : Tups H us (ws.map wayV)) (h2 : Tups H vs (ws.map wayV)) : Ev (tOp (rEqD K) ta tb) σ H (.bl true) :=
  ev_op ha hb (by
    have rr := rv_eqD (K := K) (H := H) (x := .ref p) (y := .ref q) (dp_tl (f := fun (w : Way) => [(w.1 : Int), (w.2.1 : Int), (w.2.2 : Int)]) hp h1) (dp_tl (f := fun (w : Way) => [(w.1 : Int), (w.2.1 : Int), (w.2.2 : Int)]) hq h2) (shaped_tups _ _) (shaped_tups _ _)
    rw [PyData.eqv, eqv_tups _ way_inj] at rr
    rw [show ∀ (i : Decidable (ws = ws)), @decide _ i = true from fun _ => decide_eq_true rfl] at rr
    exact rr)
end
theorem rep_flat (v : V) : ∀ n, (List.replicate n [v]).flatten = List.replicate n v
  | 0 => rfl
  | n + 1 => by
    rw [List.replicate_succ, List.flatten_cons, List.replicate_succ, rep_flat v n]
    rfl
/-- [v] * n -/
theorem el_rep {σ : L2.St} {H : Hp} {tb : TE} {n : Nat} {v : Int} (hb : Ev tb σ H (.int (n : Int))) (hn : n ≤ 1000) : EvL (tOp rRep (tLst (tCons (tC (.int v)) tNil)) tb) σ H (intV (List.replicate n v)) := fun H1 e Q q =>
  (show EvL (tLst (tCons (tC (.int v)) tNil)) σ H [.int v] from el_lst (ea_cons ev_c ea_nil) (by show 1 ≤ 100000; decide)) H1 e (fun x H2 => tb σ H2 fun y H3 => rRep x y H3 Q) fun p H2 hp e2 h2 => hb H2 (e.trans e2) _ fun H3 e3 => by
    refine ⟨p, (n : Int), [.int v], rfl, rfl, e3 _ _ h2, by omega, by omega, by rw [Int.toNat_natCast]; show 1 * n ≤ sizeLine; rw [sizeLine_eq]; omega, fun p2 hp2 => q p2 _ (fresh_back (e2.trans e3) hp2) ((e2.trans e3).trans (Ex.new hp2)) ?_⟩
    rw [upd_same, Int.toNat_natCast]
    rw [rep_flat]
    unfold intV
    rw [List.map_replicate]
/-! ### all but some stay; loops over pairs -/
def ExO (S : List Addr) (H H' : Hp) : Prop := ∀ b o, H b = some o → b ∉ S → H' b = some o
section
variable {K : PySem.W.Frag} {σ : L2.St} {H : Hp} {ta tb te tl : TE} {D : Ends} {tu tz : TS} {C : Hp → VK → Prop}
theorem el_repV {n : Nat} {v : Int} (ha : Ev ta σ H (.int v)) (hb : Ev tb σ H (.int (n : Int))) (hn : n ≤ 1000) : EvL (tOp rRep (tLst (tCons ta tNil)) tb) σ H (intV (List.replicate n v)) := fun H1 e Q q =>
  (el_lst (ea_cons ha ea_nil) (by show 1 ≤ 100000; decide)) H1 e (fun x H2 => tb σ H2 fun y H3 => rRep x y H3 Q) fun p H2 hp e2 h2 => hb H2 (e.trans e2) _ fun H3 e3 => by
    refine ⟨p, (n : Int), [.int v], rfl, rfl, e3 _ _ h2, by omega, by omega, by rw [Int.toNat_natCast]; show 1 * n ≤ sizeLine; rw [sizeLine_eq]; omega, fun p2 hp2 => q p2 _ (fresh_back (e2.trans e3) hp2) ((e2.trans e3).trans (Ex.new hp2)) ?_⟩
    rw [upd_same, Int.toNat_natCast, rep_flat]
    unfold intV
    rw [List.map_replicate]
/-- what a call tells is put into a list -/
theorem app_go {l : Addr} {xs : List V} {v : V} {H2 : Hp} {R : Hp → Prop} (h : H2 l = some (.lst xs)) (hz : xs.length < 100000) (q : R (upd H2 l (.lst (xs ++ [v])))) : rAppend (.ref l) [v] H2 fun _ H3 => R H3 := ⟨l, xs, v, rfl, rfl, h, sz_lt hz, q⟩
theorem s_appK {l : Addr} {xs : List V} (hl : H l = some (.lst xs)) (ha : Ev ta σ H (.ref l)) (h : EvK te σ H C) (k : ∀ H1, Ex H H1 → C H1 fun v H2 => rAppend (.ref l) [v] H2 fun _ H3 => D.nx σ H3) : tDrop (tBM K "list" rAppend ta (tCons te tNil)) D σ H :=
  ha H (Ex.refl H) _ fun H1 e1 => ⟨Or.inl ⟨rfl, xs, sq_of (e1 l _ hl)⟩, h H1 e1 _ (k H1 e1)⟩
theorem q_appK {l : Addr} {xs : List V} (hl : H l = some (.lst xs)) (ha : Ev ta σ H (.ref l)) (h : EvK te σ H C) (k : ∀ H1, Ex H H1 → C H1 fun v H2 => rAppend (.ref l) [v] H2 fun _ H3 => tz D σ H3) : tSeq (tDrop (tBM K "list" rAppend ta (tCons te tNil))) tz D σ H :=
  s_appK (D := { D with nx := tz D }) hl ha h k
/-- for i, x in enumerate(xs) -/
theorem walkE {a : Addr} {xs : List V} {i j : Nat} (Pv : Nat → L2.St → Hp → Prop) (h0 : Pv 0 σ H) (hl : ∀ n σ' H', Pv n σ' H' → SqL K H' a xs)
    (hs : ∀ n x σ' H' H2, xs[n]? = some x → Pv n σ' H' → Ex H' H2 → tu { D with nx := Pv (n + 1), ct := Pv (n + 1), bk := D.nx } ((σ'.set i (some (.int (n : Int)))).set j (some x)) H2) (hd : ∀ σ' H', Pv xs.length σ' H' → D.nx σ' H') :
    ∃ W : Nat → Nat → L2.St → Hp → Prop, (∃ m, W 0 m σ H) ∧ ∀ n m σ' H', W n m σ' H' → ((Ite K a).stop n H' ∧ D.nx σ' H') ∨ ((Ite K a).go n H' ∧ ∃ N : L2.St → Hp → Prop, (∀ σ2 H2, N σ2 H2 → ∃ m', m' < m ∧ W (n + 1) m' σ2 H2) ∧
      ∀ v H2, (Ite K a).yld n H' v H2 → gTup K 2 (gCons (gName i) (gCons (gName j) gNil)) v σ' H2 fun σ3 H3 => tu { D with nx := N, ct := N, bk := D.nx } σ3 H3) := by
  refine ⟨fun n m σ' H' => m = xs.length - n ∧ n ≤ xs.length ∧ Pv n σ' H', ⟨_, rfl, Nat.zero_le _, h0⟩, fun n m σ' H' ⟨hm, hn, p⟩ => ?_⟩
  have qx := hl n σ' H' p
  by_cases hlt : n < xs.length
  · refine .inr ⟨⟨xs, xs[n], qx, by simp [hlt]⟩, Pv (n + 1), fun σ2 H2 p2 => ⟨xs.length - (n + 1), by omega, rfl, hlt, p2⟩, fun v H2 y => ?_⟩
    obtain ⟨T, x, rfl, hT, rfl, hx⟩ := y
    exact g_tup2 upd_same (hs n x σ' H' _ (hx xs qx) p (Ex.new hT))
  · obtain rfl : n = xs.length := by omega
    exact .inl ⟨⟨xs, qx, Nat.le_refl _⟩, hd σ' H' p⟩
theorem s_forE {a : Addr} {xs : List V} {i j : Nat} (h : Ev tl σ H (.ref a)) (hx : SqL K H a xs) (Pv : Nat → L2.St → Hp → Prop) (h0 : ∀ H1, Ex H H1 → Pv 0 σ H1) (hl : ∀ n σ' H', Pv n σ' H' → SqL K H' a xs)
    (hs : ∀ n x σ' H' H2, xs[n]? = some x → Pv n σ' H' → Ex H' H2 → tu { D with nx := Pv (n + 1), ct := Pv (n + 1), bk := D.nx } ((σ'.set i (some (.int (n : Int)))).set j (some x)) H2) (hd : ∀ σ' H', Pv xs.length σ' H' → D.nx σ' H') :
    tFor (iEnum K (tCons tl tNil)) (gTup K 2 (gCons (gName i) (gCons (gName j) gNil))) tu D σ H := h H (Ex.refl H) _ fun H1 e => ⟨a, xs, rfl, ex_l e hx, walkE Pv (h0 H1 e) hl hs hd⟩
theorem q_forE {a : Addr} {xs : List V} {i j : Nat} (h : Ev tl σ H (.ref a)) (hx : SqL K H a xs) (Pv : Nat → L2.St → Hp → Prop) (h0 : ∀ H1, Ex H H1 → Pv 0 σ H1) (hl : ∀ n σ' H', Pv n σ' H' → SqL K H' a xs)
    (hs : ∀ n x σ' H' H2, xs[n]? = some x → Pv n σ' H' → Ex H' H2 → tu { D with nx := Pv (n + 1), ct := Pv (n + 1), bk := tz D } ((σ'.set i (some (.int (n : Int)))).set j (some x)) H2) (hd : ∀ σ' H', Pv xs.length σ' H' → tz D σ' H') :
    tSeq (tFor (iEnum K (tCons tl tNil)) (gTup K 2 (gCons (gName i) (gCons (gName j) gNil))) tu) tz D σ H := s_forE (D := { D with nx := tz D }) h hx Pv h0 hl hs hd
theorem q_forNE {xs : List V} {i j : Nat} (h : EvL tl σ H xs) (Pv : Addr → Nat → L2.St → Hp → Prop) (h0 : ∀ p H1, H p = none → Ex H H1 → H1 p = some (.lst xs) → Pv p 0 σ H1) (hl : ∀ p n σ' H', Pv p n σ' H' → SqL K H' p xs)
    (hs : ∀ p n x σ' H' H2, xs[n]? = some x → Pv p n σ' H' → Ex H' H2 → tu { D with nx := Pv p (n + 1), ct := Pv p (n + 1), bk := tz D } ((σ'.set i (some (.int (n : Int)))).set j (some x)) H2) (hd : ∀ p σ' H', Pv p xs.length σ' H' → tz D σ' H') :
    tSeq (tFor (iEnum K (tCons tl tNil)) (gTup K 2 (gCons (gName i) (gCons (gName j) gNil))) tu) tz D σ H := h H (Ex.refl H) _ fun p H1 hp e h1 => ⟨p, xs, rfl, sq_of h1, walkE (D := { D with nx := tz D }) (Pv p) (h0 p H1 hp e h1) (hl p) (hs p) (hd p)⟩
/-- for x, y in zip(xs, ys) -/
theorem q_forZ {a b : Addr} {xs ys : List V} {i j : Nat} (h : Ev ta σ H (.ref a)) (h2 : Ev tb σ H (.ref b)) (hx : SqL K H a xs) (hy : SqL K H b ys) (he : xs.length = ys.length) (Pv : Nat → L2.St → Hp → Prop) (h0 : ∀ H1, Ex H H1 → Pv 0 σ H1) (hl : ∀ n σ' H', Pv n σ' H' → SqL K H' a xs ∧ SqL K H' b ys)
    (hs : ∀ n x y σ' H' H2, xs[n]? = some x → ys[n]? = some y → Pv n σ' H' → Ex H' H2 → tu { D with nx := Pv (n + 1), ct := Pv (n + 1), bk := tz D } ((σ'.set i (some x)).set j (some y)) H2) (hd : ∀ σ' H', Pv xs.length σ' H' → tz D σ' H') :
    tSeq (tFor (RZ.iZipA K (tCons ta (tCons tb tNil))) (gTup K 2 (gCons (gName i) (gCons (gName j) gNil))) tu) tz D σ H :=
  h H (Ex.refl H) _ fun H1 e => h2 H1 e _ fun H2 e2 => ⟨a, b, xs, ys, rfl, .inl ⟨ex_l (e.trans e2) hx, ex_l (e.trans e2) hy, RZ.for_zipL (D := { D with nx := tz D }) he Pv (h0 H2 (e.trans e2)) hl (fun n x y T σ' H' k1 k2 p hT => g_tup2 upd_same (hs n x y σ' H' _ k1 k2 p (Ex.new hT))) hd⟩⟩
theorem q_forZN {a : Addr} {xs ys : List V} {i j : Nat} (h : Ev ta σ H (.ref a)) (h2 : EvL tb σ H ys) (hx : SqL K H a xs) (he : xs.length = ys.length) (Pv : Addr → Nat → L2.St → Hp → Prop) (h0 : ∀ b H1, H b = none → Ex H H1 → H1 b = some (.lst ys) → Pv b 0 σ H1) (hl : ∀ b n σ' H', Pv b n σ' H' → SqL K H' a xs ∧ SqL K H' b ys)
    (hs : ∀ b n x y σ' H' H2, xs[n]? = some x → ys[n]? = some y → Pv b n σ' H' → Ex H' H2 → tu { D with nx := Pv b (n + 1), ct := Pv b (n + 1), bk := tz D } ((σ'.set i (some x)).set j (some y)) H2) (hd : ∀ b σ' H', Pv b xs.length σ' H' → tz D σ' H') :
    tSeq (tFor (RZ.iZipA K (tCons ta (tCons tb tNil))) (gTup K 2 (gCons (gName i) (gCons (gName j) gNil))) tu) tz D σ H :=
  h H (Ex.refl H) _ fun H1 e => h2 H1 e _ fun b H2 hb e2 hy => ⟨a, b, xs, ys, rfl, .inl ⟨ex_l (e.trans e2) hx, sq_of hy, RZ.for_zipL (D := { D with nx := tz D }) he (Pv b) (h0 b H2 (fresh_back e hb) (e.trans e2) hy) (hl b) (fun n x y T σ' H' k1 k2 p hT => g_tup2 upd_same (hs b n x y σ' H' _ k1 k2 p (Ex.new hT))) (hd b)⟩⟩
end
/-! ### what walks to its end while an exception is handled -/
section
open HotX
variable {prog : Program} {w : World} {A : Around} {E : Value → Shared → Prop} {s : Shared}
/-- StopIteration, made and thrown where an exception is handled -/
theorem stop_hot {α : Type} {x1 : Addr} {Q : α → Shared → Prop} (hot : HotAt A x1 s.heap)
    (hE : ∀ (e : Addr) (h' : Heap), (∃ o, h'.get? e = some o ∧ o.cls = .type "StopIteration") → (∀ b o, s.heap.get? b = some o → h'.get? b = some o) → E (.ref e) { s with heap := h' }) :
    wpAny (model prog w) A (newExc (.type "StopIteration") [] >>= fun e => (raiseNew e : Sem α)) Q E s := by
  obtain ⟨hh, ob, fs, g1, g2, g3⟩ := hot
  simp only [newExc, newTuple]
  refine wpAny_bind (wpAny_bind (wpAny_newObj_type ?_ (by size_fits)))
  refine wpAny_bind (m := firstArgMember _ _) (wpAny_of_eq (a := Value.none) (by first | rfl | (simp only [firstArgMember] <;> rfl)) (wpAny_newObj_type ?_ (by size_fits)))
  refine raiseNew_hot (x1 := x1) ⟨hh, ob, fs, Heap.get?_push_of_some _ (Heap.get?_push_of_some _ g1), g2, g3⟩ (Nat.ne_of_lt (Heap.lt_size (Heap.get?_push_of_some _ g1))) (Heap.get?_push_size _ rfl) rfl
    (by first | (simp; done) | (simp; omega) | (simp only [Array.size_append]; simp; omega)) (hE _ _ ⟨_, Heap.get?_update_self _ (Heap.get?_push_size _ rfl) rfl, rfl⟩ fun b o e => ?_)
  rw [Heap.get?_update_other _ _ (Nat.ne_of_gt (Heap.lt_size (Heap.get?_push_of_some _ e)))]
  exact Heap.get?_push_of_some _ (Heap.get?_push_of_some _ e)
theorem hot_kept {x1 it : Addr} {f : Obj → Obj} (hot : HotAt A x1 s.heap) (ne : x1 ≠ it) : HotAt A x1 (s.heap.update it f) := by
  obtain ⟨hh, ob, fs, g1, g2, g3⟩ := hot
  exact ⟨hh, ob, fs, by rw [Heap.get?_update_other _ _ (Ne.symm ne)]; exact g1, g2, g3⟩
/-- a list's iterator at its end -/
theorem list_out {it l x1 : Addr} {i : Nat} {xs : Array Value} {Q : Option Value → Shared → Prop} (hot : HotAt A x1 s.heap) (ne : x1 ≠ it) (ti : s.heap.IsListIter it l i) (tl : s.heap.IsList l xs) (no : xs[i]? = none)
    (fin : ∀ h', Heap.ExtBut it s.heap h' → Q none { s with heap := h' }) : wpAny (model prog w) A (pyNext (.ref it)) Q E s := by
  obtain ⟨q, hq, c1, c2⟩ := id ti
  obtain ⟨ol, hol, _, nl, hdl⟩ := tl
  unfold pyNext
  refine wpAny_bind (wpAny_attempt (wpAny_callSpecial?_slot (name := Str.ofString "__next__") ti.typeIs slot_listiter_next (wpAny_call_entry slot_listiter_next ti.typeIs entry_listiter_next ?_ (args_listiter_next _))))
  show wpAny _ _ (field (.ref it) 0 >>= _) _ _ _
  refine wpAny_bind (wpAny_field hq c2 (x := Value.ref l) rfl ?_)
  show wpAny _ _ (if (Value.ref l == Value.none) = true then _ else _) _ _ _
  rw [if_neg (show ¬ (Value.ref l == Value.none) = true from fun z => Bool.noConfusion (show false = true from z))]
  show wpAny _ _ (field (.ref it) 1 >>= _) _ _ _
  refine wpAny_bind (wpAny_field hq c2 (x := Value.int i 0) rfl ?_)
  show wpAny _ _ (seqItems? (.ref l) >>= _) _ _ _
  refine wpAny_bind (wpAny_seqItems hol hdl ?_)
  simp only [Int.toNat_natCast, no]
  refine wpAny_bind (wpAny_rule (wpAny_bind (wpAny_setField hq c2 (by simp) ?_)))
  refine stop_hot (x1 := x1) (hot_kept hot ne) fun e h' hc up => ?_
  refine wpAny_bind (wpAny_isInstance (T := "StopIteration") (b := true) hc isSubtype_stop (wpAny_pure (fin _ fun b o hb g => up _ _ ?_)))
  rw [Heap.get?_update_other _ _ (Ne.symm hb)]
  exact g
/-- a tuple's iterator at its end -/
theorem tuple_out {it l x1 : Addr} {i : Nat} {xs : Array Value} {Q : Option Value → Shared → Prop} (hot : HotAt A x1 s.heap) (ne : x1 ≠ it) (ti : s.heap.IsTupleIter it l i) (tl : s.heap.IsTuple l xs) (no : xs[i]? = none)
    (fin : ∀ h', Heap.ExtBut it s.heap h' → Q none { s with heap := h' }) : wpAny (model prog w) A (pyNext (.ref it)) Q E s := by
  obtain ⟨q, hq, c1, c2⟩ := id ti
  obtain ⟨ol, hol, _, nl, hdl⟩ := tl
  unfold pyNext
  refine wpAny_bind (wpAny_attempt (wpAny_callSpecial?_slot (name := Str.ofString "__next__") ti.typeIs F.slot_tuple_iterator_next (wpAny_call_entry F.slot_tuple_iterator_next ti.typeIs F.entry_tuple_iterator_next ?_ (F.args_tuple_iterator_next_1 _))))
  show wpAny _ _ (field (.ref it) 0 >>= _) _ _ _
  refine wpAny_bind (wpAny_field hq c2 (x := Value.ref l) rfl ?_)
  show wpAny _ _ (if (Value.ref l == Value.none) = true then _ else _) _ _ _
  rw [if_neg (show ¬ (Value.ref l == Value.none) = true from fun z => Bool.noConfusion (show false = true from z))]
  show wpAny _ _ (field (.ref it) 1 >>= _) _ _ _
  refine wpAny_bind (wpAny_field hq c2 (x := Value.int i 0) rfl ?_)
  show wpAny _ _ (seqItems? (.ref l) >>= _) _ _ _
  refine wpAny_bind (wpAny_seqItems hol hdl ?_)
  simp only [Int.toNat_natCast, no]
  refine wpAny_bind (wpAny_rule (wpAny_bind (wpAny_setField hq c2 (by simp) ?_)))
  refine stop_hot (x1 := x1) (hot_kept hot ne) fun e h' hc up => ?_
  refine wpAny_bind (wpAny_isInstance (T := "StopIteration") (b := true) hc isSubtype_stop (wpAny_pure (fin _ fun b o hb g => up _ _ ?_)))
  rw [Heap.get?_update_other _ _ (Ne.symm hb)]
  exact g
/-- a tuple taken apart -/
theorem parts_hot {env : Env} {es : List Expr} {k : Nat} {pos : Pos} {t x1 : Addr} {xs : Array Value} {Q : Unit → Shared → Prop} (hot : HotAt A x1 s.heap) (ht : s.heap.IsTuple t xs) (hn : (assignEach es env).length = xs.size) (hst : (assignEach es env).findIdx? (·.1) = none)
    (go : ∀ h', Heap.ExtBut s.heap.objs.size s.heap h' → wpAny (model prog w) A (assignInOrder ((assignEach es env).map (·.2)) xs.toList) Q E { s with heap := h' }) : wpAny (model prog w) A (assign (.Tuple es k pos) env (.ref t)) Q E s := by
  have nt : t ≠ s.heap.objs.size := by obtain ⟨o, ho, _⟩ := ht; exact Nat.ne_of_lt (Heap.lt_size ho)
  have nx : x1 ≠ s.heap.objs.size := by obtain ⟨_, o, fs, ho, _⟩ := hot; exact Nat.ne_of_lt (Heap.lt_size ho)
  rw [arm_assign_Tuple]
  refine wpAny_bind (wpAny_standAt ?_)
  unfold unpack
  rw [hn, hst]
  refine wpAny_bind (wpAny_holding ?_)
  unfold unpackItems
  refine wpAny_bind ?_
  unfold notIterableAtAll
  refine wpAny_bind (wpAny_specialOf ht.typeIs F.slot_tuple_iter.lookup (wpAny_pure ?_))
  simp only [Bool.false_eq_true, if_false]
  refine wpAny_bind (wpAny_holding (wpAny_pyIter_tuple ht ?_))
  refine wpAny_bind (wpAny_holding (wpAny_draw_tuple nt xs.size 0 _ _ ⟨_, Heap.get?_push_size _ rfl, rfl, rfl⟩ (ht.push _) (by omega) fun h2 i2 b2 => ?_))
  have all : List.take xs.size (List.drop 0 xs.toList) = xs.toList := by
    rw [List.drop_zero]; exact List.take_of_length_le (by simp)
  rw [all, if_neg (by simp)]
  have t2 : h2.IsTuple t xs := (ht.push _).extBut b2.extBut nt
  have hot2 : HotAt A x1 h2 := by
    obtain ⟨hh, o, fs, g1, g2, g3⟩ := hot
    exact ⟨hh, o, fs, b2.extBut _ _ nx (Heap.get?_push_of_some _ g1), g2, g3⟩
  refine wpAny_bind (wpAny_holding (tuple_out hot2 nx i2 t2 (by simp) fun h3 e3 => ?_))
  simp only [Option.isSome_none, Bool.false_eq_true, if_false]
  exact wpAny_pure (go h3 fun b o hb e => e3 b o hb (b2.extBut b o hb (Heap.get?_push_of_some _ e)))
end

section
open HotX L2H
theorem turn_listH {P : Program} {w : World} {K : PySem.W.Frag} {tg : Expr} (a it : Addr) : TurnH P w K tg (Itl K a) [it] it (fun i h => h.IsListIter it a i) where
  mem := List.mem_singleton_self _
  obj := (turn_list (P := P) (w := w) (K := K) (tg := tg) a it).obj
  keep := (turn_list (P := P) (w := w) (K := K) (tg := tg) a it).keep
  item := by
    intro Y e1 e2 e3 _ i pins s σ H E J hf st hg
    subst e1 e2 e3
    obtain ⟨xs, x, lq, hx⟩ := hg
    obtain ⟨its, rv, p, _⟩ := J.list lq
    obtain ⟨u, hu, ru⟩ := rv.get hx
    obtain ⟨n0, n1, n2, n3, n4, n5⟩ := hf it (List.mem_singleton_self _)
    refine wpAny_pyNext_list_item st p.isList (x := u) (by simpa using hu) fun h2 st2 sb => ?_
    have J2 : Inv Y pins σ H { s with heap := h2 } := J.turned (t' := s.toks) (fun b o hb e => (sb.2 b hb).trans e) n0 n1 n3 n4 n5
    obtain ⟨o, g1, g2, g3⟩ := id st2
    exact ⟨u, rfl, go_of (s := { s with heap := h2 }) g1 g2 g3 (by decide) ⟨x, H, J2, ru, ⟨rfl, fun ys hy => by rw [J.list_inj hy lq]; exact hx⟩, st2, fun b hb => (hf b hb).1⟩⟩
  done := by
    intro Y e1 e2 e3 hc i pins s σ H E J hf st hg
    subst e1 e2 e3
    obtain ⟨xs, lq, hx⟩ := hg
    obtain ⟨its, rv, p, _⟩ := J.list lq
    obtain ⟨n0, n1, n2, n3, n4, n5⟩ := hf it (List.mem_singleton_self _)
    have hl := rv.length
    obtain ⟨q, ⟨hh, v1, g1, g2⟩, hq⟩ := hc
    exact list_out (x1 := q.1) ⟨hh, q.2, v1, (J.pin q (List.mem_append_left _ hq)).1, g1, g2⟩ (n5 q (List.mem_append_left _ hq)) st p.isList (by simp; omega) fun h2 eb => ⟨rfl, J.turned (t' := s.toks) (fun b o hb e => eb b o hb e) n0 n1 n3 n4 n5⟩
  self := fun _ _ _ _ _ st h => wpAny_pyIter_listiter st h
theorem pi_listH {X : Cx} {tg e : Expr} {te : TE} (he : PE X e te) : PIH X tg e (iList X.K te) := by
  refine ⟨fun pins s σ H R I h => ?_⟩
  refine thn (he.run pins s σ H _ I h) fun v s1 ⟨x, H1, I1, rx, a, ex, ⟨xs, lq⟩, q⟩ => ?_
  subst ex
  obtain rfl : v = Value.ref a := rx
  obtain ⟨its, rv, p, _⟩ := I1.list lq
  refine wpAny_pyIter_list p.isList ?_
  have sz := Nat.le_refl s1.heap.objs.size
  exact ⟨s1.heap.objs.size, [s1.heap.objs.size], _, _, H1, rfl, I1.kept (t' := s1.toks) fun b o e => Heap.get?_push_of_some _ e, turn_listH a _, ⟨_, Heap.get?_push_size _ rfl, rfl, rfl⟩, fun b hb => (by
    rw [List.mem_singleton.mp hb]
    exact I1.fpOk sz (I1.hok.fresh sz)), q⟩
theorem pg_tupH {X : Cx} {es : List Expr} {k : Nat} {pos : Pos} {t : TGs} {n : Nat} (hc : HotC X) (h : PGs X es t) (hn : (assignEach es X.env).length = n := by rfl) (hst : (assignEach es X.env).findIdx? (·.1) = none := by rfl) : PG X (.Tuple es k pos) (gTup X.K n t) := by
  refine ⟨fun pins s σ H v u Q I r hw => ?_⟩
  obtain ⟨a, xs, rfl, hq, hl, hw⟩ := hw
  cases r
  obtain ⟨its, rv, ht, _⟩ := I.tuple hq
  obtain ⟨x1, hot⟩ := hc.at I
  refine parts_hot hot ht (by simp [hn, ← hl, rv.length]) hst fun h2 up => ?_
  exact h.run pins _ σ H xs _ Q (I.kept (t' := s.toks) fun b o e => up b o (Nat.ne_of_lt (Heap.lt_size e)) e) (by simpa using rv) hw
end

/-! ### a list comprehension where an exception is handled -/
section
open HotX L2H
/-- the block's context: the exception that is handled stays in sight -/
abbrev blkH (X : Cx) (s : Shared) (H : Hp) (sc : Scope) (ce : Env) (fp : List Addr) : Cx := (X.blk s H sc ce fp).tr X.pn (fun _ _ => False)
variable {X : Cx}
theorem hot_blk {s : Shared} {H : Hp} {sc : Scope} {ce : Env} {fp : List Addr} (c : HotC X) : HotC (blkH X s H sc ce fp) := c
theorem start_blkH {pins : List (Addr × Obj)} {σ : L2.St} {H : Hp} {s : Shared} {sc : Scope} {own : List (Str × Nat)} {fp : List Addr} (J : Inv X pins σ H s) (bo : BlkOk X.N X.env.scope sc own) (nd : X.N.Nodup) (hfp : ∀ b ∈ fp, FpOk X pins H b ∧ b < s.heap.objs.size) :
    Inv (blkH X s H sc (compEnvC sc (cellsFrom (s.heap.objs.size + 1) sc.names (cloFrom X.env.cells sc.names [])) s.heap.objs.size X.env) fp) [] (wipe σ (own.map (·.2))) H { s with heap := pushCells (s.heap.push { cls := .type "dict", data := .dict #[] }) sc.names } := by
  have B := block_start J bo nd hfp
  refine ⟨B.ok.toTry _ _, B.os, B.bare, B.base, B.loc, B.cell, B.free, B.freeC, fun q hq => ?_, B.hok, B.len⟩
  have hq' : q ∈ X.pn := by
    rcases List.mem_append.mp hq with z | z
    · exact z
    · cases z
  obtain ⟨g1, g2, g3, g4, g5⟩ := J.pin q (List.mem_append_left _ hq')
  exact ⟨pushCells_keeps _ _ _ _ (Heap.get?_push_of_some _ g1), g2, Nat.ne_of_lt (Heap.lt_size g1), fun z => (List.mem_cons.mp (J.stkSub _ z)).elim g3 g4, g5⟩
theorem lc_coreH {pins : List (Addr × Obj)} {t0 : Shared} {σ : L2.St} {H : Hp} {Q : VK} {elt tg iter : Expr} {ifs : List Expr} {sc : Scope} {own : List (Str × Nat)} {pos pos' : Pos} {wi : TI} {g : TG} {tt : TT} {te : TE} {use : Option (Value → Sem Unit)} {R : Value → Shared → Prop}
    (hot : HotC X) (nd : X.N.Nodup) (J : Inv X pins σ H t0) (pi : PIH X tg iter wi) (bo : BlkOk X.N X.env.scope sc own)
    (hG : ∀ (s : Shared) (H : Hp) (C : Addr) (cl : List (Str × Addr)) (fp : List Addr), PG (blkH X s H sc (compEnvC sc cl C X.env) fp) tg g)
    (hT : ∀ (s : Shared) (H : Hp) (C : Addr) (cl : List (Str × Addr)) (fp : List Addr), PTs (blkH X s H sc (compEnvC sc cl C X.env) fp) ifs tt)
    (hE : ∀ (s : Shared) (H : Hp) (C : Addr) (cl : List (Str × Addr)) (fp : List Addr), PE (blkH X s H sc (compEnvC sc cl C X.env) fp) elt te) (hF : ∀ x, foldedSetIterable iter X.env x = pure x)
    (hq : tLc wi g tt te (own.map (·.2)) σ H Q)
    (back : ∀ D C t m H', Inv X pins σ H' t → Q (.ref D) H' → t.heap.Ns C m → FpOk X pins H' C → compPost (model X.prog X.w) X.A X.xe use R (.ref D) C (.ok .next) t) :
    wpAny (model X.prog X.w) X.A (comprehension (.ListComp elt [⟨tg, iter, ifs, 0⟩] sc pos) sc X.env pos' (newList []) false (eval iter X.env) use) R X.xe t0 := by
  have fr : ∀ y ∈ sc.names, y.2 = .free → ∃ c, X.env.cells.lookup y.1 = some c := fun y hy e => X.env.scope |> fun _ => (bo.free y hy e).elim (fun k => J.ok.has _ (.inl k)) (fun k => J.ok.has _ (.inr k))
  refine wpAny_comprehension_free (use := use) rfl hF (closure_ok fr) bo.kind (fun y hy e => by rw [bo.uniq y hy, e]) (thn (pi.run pins t0 σ H _ J hq) fun xv t1 hx => thn hx fun itv t2 hh => ?_)
  obtain ⟨it, fp, tn, ix, H2, rfl, J2, T, n2, ff2, q⟩ := hh
  refine wpAny_newObj_type (newEnv_comp ?_) (Nat.zero_le sizeLine)
  generalize hD : t2.heap.objs.size = D
  obtain ⟨W, ⟨m0, w0⟩, turn⟩ := q D (J2.hok.fresh (Nat.le_of_eq hD))
  -- the new list is laid
  generalize ht3 : ({ t2 with heap := t2.heap.push { cls := .type "list", data := .seq ([] : List Value).toArray } } : Shared) = t3
  have h3 : t3.heap = t2.heap.push { cls := .type "list", data := .seq ([] : List Value).toArray } := by subst ht3; rfl
  have J3 : Inv X pins σ (upd H2 D (.lst [])) t3 := by
    subst ht3
    exact J2.laid (t' := t2.toks) (fun b o e => Heap.get?_push_of_some _ e) (Nat.le_of_eq hD) ⟨Nat.zero_le _, [], 0, .nil, hD ▸ Heap.get?_push_size _ rfl⟩
  have lt2 : ∀ b ∈ fp, b < t2.heap.objs.size := fun b hb => (T.obj _ _ n2 b hb).elim fun o e => Heap.lt_size e.1
  have ff3 : ∀ b ∈ fp, FpOk X pins (upd H2 D (.lst [])) b ∧ b < t3.heap.objs.size := fun b hb => ⟨⟨by
    rw [upd_ne (hD ▸ Nat.ne_of_lt (lt2 b hb))]
    exact (ff2 b hb).1, (ff2 b hb).2⟩, by
    rw [h3, Heap.size_push]
    exact Nat.lt_succ_of_lt (lt2 b hb)⟩
  have n3 : tn 0 t3.heap := T.keep _ _ _ n2 fun b _ o e => h3 ▸ Heap.get?_push_of_some _ e
  have J4 := start_blkH J3 bo nd ff3
  have gg := hG t3 (upd H2 D (.lst [])) t3.heap.objs.size (cellsFrom (t3.heap.objs.size + 1) sc.names (cloFrom X.env.cells sc.names [])) fp
  have gt := hT t3 (upd H2 D (.lst [])) t3.heap.objs.size (cellsFrom (t3.heap.objs.size + 1) sc.names (cloFrom X.env.cells sc.names [])) fp
  have ge := hE t3 (upd H2 D (.lst [])) t3.heap.objs.size (cellsFrom (t3.heap.objs.size + 1) sc.names (cloFrom X.env.cells sc.names [])) fp
  show codeAny _ _ (.compStart (.ListComp elt [⟨tg, iter, ifs, 0⟩] sc pos) 0 (.ref it) (.ref D) (compEnvC sc (cellsFrom (t3.heap.objs.size + 1) sc.names (cloFrom X.env.cells sc.names [])) t3.heap.objs.size X.env))
    (compPost (model X.prog X.w) X.A X.xe use R (.ref D) t3.heap.objs.size) { t3 with heap := pushCells (t3.heap.push { cls := .type "dict", data := .dict #[] }) sc.names }
  have free3 : ∀ b ∈ fp, (upd H2 D (.lst [])) b = none := fun b hb => (ff3 b hb).1.1
  generalize hce : compEnvC sc (cellsFrom (t3.heap.objs.size + 1) sc.names (cloFrom X.env.cells sc.names [])) t3.heap.objs.size X.env = ce at J4 gg gt ge ⊢
  have loc : ce.locals = t3.heap.objs.size := by subst hce; rfl
  generalize hH3 : upd H2 D (.lst []) = H3 at J3 J4 gg gt ge w0 free3 ff3
  generalize ht4 : ({ t3 with heap := pushCells (t3.heap.push { cls := .type "dict", data := .dict #[] }) sc.names } : Shared) = t4 at J4 ⊢
  have n4 : tn 0 t4.heap := T.keep _ _ _ n3 fun b _ o e => ht4 ▸ pushCells_keeps _ _ _ _ (Heap.get?_push_of_some _ e)
  have still : ∀ {σ' : L2.St} {H' : Hp} {t : Shared}, Inv (blkH X t3 H3 sc ce fp) [] σ' H' t → (∀ b ∈ fp, H' b = none) → ∀ b ∈ fp, FpOk (blkH X t3 H3 sc ce fp) [] H' b := fun {σ' H' t} J' hn b hb =>
    ⟨hn b hb, (J'.ok.exf b hb).1, J'.ok.exfs b hb, .inl hb, fun y c e => (J'.ok.exf b hb).2 y c e, fun p hp => (ff3 b hb).1.2.2.2.2.2 p (by
      rcases List.mem_append.mp hp with z | z
      · exact List.mem_append_left _ z
      · cases z)⟩
  have go : codeAny (model X.prog X.w) X.A (.compLoop (.ListComp elt [⟨tg, iter, ifs, 0⟩] sc pos) 0 (.ref it) (.ref D) ce) (compPost (model X.prog X.w) X.A X.xe use R (.ref D) t3.heap.objs.size) t4 := by
    refine compLoop_any (fun n t => ∃ i H', Inv (blkH X t3 H3 sc ce fp) [] (wipe σ (own.map (·.2))) H' t ∧ tn i t.heap ∧ (∀ b ∈ fp, H' b = none) ∧ W i n H') ?_ m0 ⟨0, H3, J4, n4, free3, w0⟩
    rintro n t5 ⟨i, H5, J5, n5, fr5, w5⟩
    rcases turn i n H5 w5 with ⟨stop, qq⟩ | ⟨more, Nx, hNx, step⟩
    · refine thnF (T.done (blkH X t3 H3 sc ce fp) rfl rfl rfl (hot_blk hot) i [] t5 _ H5 (fun _ _ => False) J5 (still J5 fr5) n5 stop) fun r t6 ⟨hr, J6⟩ => ?_
      subst hr
      have J7 : Inv X pins σ H5 t6 := J3.call' (ch := fp) J6.os J6.base J6.hok J6.bare fun b hb => have z := (ff3 b hb).1.2; ⟨z.2.2.1, z.1, z.2.2.2.1, z.2.2.2.2⟩
      have nL : H5 ce.locals = none := J6.free
      obtain ⟨m, hn, _⟩ := J6.loc
      have hn' : t6.heap.Ns ce.locals m := hn
      rw [loc] at hn' nL
      exact back D t3.heap.objs.size t6 m H5 J7 qq hn' (J3.fpOk (Nat.le_refl _) nL)
    · refine thnF (T.item (blkH X t3 H3 sc ce fp) rfl rfl rfl (hot_blk hot) i [] t5 _ H5 (fun _ _ => False) J5 (still J5 fr5) n5 more) fun r t6 ⟨u, hr, h6⟩ => ?_
      subst hr
      refine thnF h6 fun _ t7 ⟨x, H7, J7, rx, yx, n7, fr7⟩ => ?_
      refine thnF (gg.run _ t7 _ H7 x u _ (J7.pinned (still J7 fr7) (T.obj _ _ n7)) rx (step x H7 yx)) fun _ t8 ⟨σ8, H8, J8, hw8, q8⟩ => ?_
      refine thnF (gt.run _ t8 σ8 H8 _ J8 q8) fun b t9 ⟨H9, J9, q9⟩ => ?_
      have fin : ∀ {t : Shared} {H' : Hp}, Inv (blkH X t3 H3 sc ce fp) ([] ++ pinsAt fp t7.heap) σ8 H' t → Nx H' → ∃ m, m < n ∧ ∃ i H', Inv (blkH X t3 H3 sc ce fp) [] (wipe σ (own.map (·.2))) H' t ∧ tn i t.heap ∧ (∀ b ∈ fp, H' b = none) ∧ W i m H' := fun {t H'} J' nx => by
        obtain ⟨m', hm, w'⟩ := hNx H' nx
        have kept : ∀ b ∈ fp, ∀ o, t7.heap.get? b = some o → t.heap.get? b = some o ∧ H' b = none := fun b hb o e =>
          have z := J'.pin (b, o) (List.mem_append_right _ (List.mem_append_right _ (mem_pinsAt hb e)))
          ⟨z.1, z.2.1⟩
        refine ⟨m', hm, i + 1, H', (J'.unpinned (pins := [])).weak (by rw [← hw8, wipe_length]) (fun j v e => (wipe_some (hw8.symm ▸ e)).1), T.keep _ _ _ n7 fun b hb o e => (kept b hb o e).1, fun b hb => ?_, w'⟩
        exact (T.obj _ _ n7 b hb).elim fun o e => (kept b hb o e.1).2
      cases b with
      | false => exact fin J9 (by simpa using q9)
      | true =>
        have q9' := by simpa only [if_true] using q9
        refine thnF (ge.run _ t9 σ8 H9 _ J9 q9') fun z t10 ⟨yv, H10, J10, r10, acc, a1, a2, nx⟩ => ?_
        exact app_ok (X := blkH X t3 H3 sc ce fp) J10 a1 a2 r10 fun t11 J11 => fin J11 nx
  exact codeAny_compStart_list go (T.self X.A 0 _ _ _ n4 go)
/-- name = [..], the name a local -/
theorem ps_setLcH {i : Nat} {y : Str} {py : Pos} {elt tg iter : Expr} {ifs : List Expr} {sc : Scope} {own : List (Str × Nat)} {pos spos : Pos} {wi : TI} {g : TG} {tt : TT} {te : TE} (hot : HotC X) (nd : X.N.Nodup) (hy : X.N[i]? = some y) (hl : X.env.scope.names.lookup y = some .local)
    (sw : swapsWith (.ListComp elt [⟨tg, iter, ifs, 0⟩] sc pos) (some (.Name y py)) spos.line X.env = pure true) (pi : PIH X tg iter wi) (bo : BlkOk X.N X.env.scope sc own)
    (hG : ∀ (s : Shared) (H : Hp) (C : Addr) (cl : List (Str × Addr)) (fp : List Addr), PG (blkH X s H sc (compEnvC sc cl C X.env) fp) tg g)
    (hT : ∀ (s : Shared) (H : Hp) (C : Addr) (cl : List (Str × Addr)) (fp : List Addr), PTs (blkH X s H sc (compEnvC sc cl C X.env) fp) ifs tt)
    (hE : ∀ (s : Shared) (H : Hp) (C : Addr) (cl : List (Str × Addr)) (fp : List Addr), PE (blkH X s H sc (compEnvC sc cl C X.env) fp) elt te) (hF : ∀ x, foldedSetIterable iter X.env x = pure x := by intro _; rfl) :
    PS X (.Assign [.Name y py] (.ListComp elt [⟨tg, iter, ifs, 0⟩] sc pos) spos) (tAsg (tLc wi g tt te (own.map (·.2))) (gName i)) := by
  refine ⟨fun pins t0 σ H D J hq => ?_⟩
  rw [exec_Assign_Name_used _ _ _ _ sw]
  refine wpAny_bind (wpAny_standAt (wpAny_bind ?_))
  show wpAny _ X.A (do let _ ← comprehension (.ListComp elt [⟨tg, iter, ifs, 0⟩] sc pos) sc X.env (firstIterPos [⟨tg, iter, ifs, 0⟩] pos) (newList []) false (eval iter X.env) (some (assign (.Name y py) X.env))) _ _ t0
  have hq : tLc wi g tt te (own.map (·.2)) σ H (fun x H1 => gName i x σ H1 D.nx) := hq
  refine wpAny_bind (thn (lc_coreH (R := fun _ t => SP X pins D .next t) hot nd J pi bo hG hT hE hF hq fun L C t m H' J' q hn f => ?_) fun _ t hq => wpAny_pure (wpAny_pure hq))
  show wpAny _ _ (assign (.Name y py) X.env (.ref L)) _ _ _
  refine wpAny_assign_Name (store_ok2 (v := V.ref L) J' nd hy (.inl hl) rfl (fun t2 J2 ⟨a, sb, ha⟩ => ?_) (.inr hl))
  have ne : C ≠ a := ha.elim (fun z => z.symm ▸ f.2.1) fun z e => f.2.2.2.2.1 y a z e.symm
  exact ⟨m, hn.sameBut sb ne, fun h3 sb3 => ⟨_, H', J2.turned (t' := t2.toks) (fun b o hb e => (sb3.2 b hb).trans e) f.1 f.2.1 f.2.2.2.1 f.2.2.2.2.1 f.2.2.2.2.2, q⟩⟩
end
/-! ### a def that is handed the exception which is handled; calls out of which an exception comes -/
section
open HotX L2H
structure FnE (P : Program) (w : World) (K : PySem.W.Frag) (mg : Str → Option Value) (base : Heap) (k : Nat) (f : Addr) (fd : FuncData) (ps : List Str) (G : Addr × Obj → Prop) (sp : Addr → Sp) : Prop where
  len : ∀ a vs H Q E, sp a vs H Q E → vs.length = ps.length
  run : ∀ (A : Around) (out : List Env) (t : Shared) (H : Hp) (ar : Args) (us : List Value) (vs : List V) (Q : VK) (E : XK) (p : Addr × Obj), G p → RoomH k A → Hot1 A p → PinOk out H t p → Env0 P w K mg base A out t H → BindsTo t fd ar (ps.zip us) → Vals vs us → sp p.1 vs H Q E →
    codeAny (model P w) A (.call (.ref f) ar) (CR CX0 out P w H t Q E) t
theorem okE {P : Program} {w : World} {K : PySem.W.Frag} {mg : Str → Option Value} {base : Heap} {x qual : Str} {params : Arguments} {body : List Stmt} {scope : Scope} {dvs : List V} {kws : List (Str × V)} {f : Addr} {fd : FuncData}
    {N ps : List Str} {k : Nat} {G : Addr × Obj → Prop} {sp : Addr → Sp} (F : FunD K x qual params body scope dvs kws f fd) (S : FnScope N ps scope) (len : ∀ a vs H Q E, sp a vs H Q E → vs.length = ps.length)
    (hbody : ∀ (cdv : Value) (A : Around) (out : List Env) (t : Shared) (H : Hp) (vs : List V) (Q : VK) (E : XK) (p : Addr × Obj), G p → HotC (cxH CX0 P w K mg base N qual scope f cdv A out t H E p) → RoomH k (A.deeper (envOfC qual scope t.heap.objs.size f cdv)) → sp p.1 vs H Q E →
      ∃ ts, PSs (cxH CX0 P w K mg base N qual scope f cdv A out t H E p) body ts ∧ ts { nx := fun _ H' => Q .non H', rt := Q } (L2.start N vs) H) : FnE P w K mg base (k + 1) f fd ps G sp := by
  obtain ⟨oc, od, dV, kV, doc, pm, an, cdv, ct, osl, rfl, lk, hcd, _, _⟩ := F.ex
  refine ⟨len, fun A out t H ar us vs Q E p hG hr hot hp e0 hb r hsp => ?_⟩
  have KI : K.In t.heap := e0.mod.kin.keeps fun b o e => (e0.bs b o e).1
  have NL : t.heap.NoLimit := e0.mod.nolimit.keeps fun b o e => (e0.bs b o e).1
  have kinds : ∀ y ∈ ps.zip us, scope.names.lookup y.1 = some .local ∨ (scope.names.lookup y.1 = some .cell ∧ ((cellsFrom (t.heap.objs.size + 1) scope.names []).lookup y.1).isSome = true) := fun ⟨n, v⟩ hy =>
    (S.par n (List.of_mem_zip hy).1).imp id fun q => ⟨q, PySem.W.cellsFrom_some _ _ _ (.inl q)⟩
  refine codeAny_call_function hr.depth (KI _ _ lk) rfl S.co S.gen rfl (PySem.W.codeRec_of KI hcd) (hb _ _ _ _ (wpAny_newFunctionEnv_cells S.kind kinds fun env he t1 x => ?_))
  subst he
  refine ⟨NL.keeps x.toInCall.keep, codeAny_func ?_⟩
  obtain ⟨ts, hts, hq⟩ := hbody cdv A out t H vs Q E p hG ⟨p, hot, List.mem_singleton_self p⟩ (hr.deeper _) hsp
  have J : Inv (cxH CX0 P w K mg base N qual scope f cdv A out t H E p) [] (L2.start N vs) H t1 := inv_startH S hp e0 (len _ _ _ _ _ hsp) r x
  refine wpAny_mono (hts.run [] t1 (L2.start N vs) H _ J hq) (fun fl t' hs => ?_) fun e t' hs => hs
  have fin : ∀ {σ' : L2.St} {H' : Hp} {v : V} {u : Value}, Inv (cxH CX0 P w K mg base N qual scope f cdv A out t H E p) [] σ' H' t' → RelV v u → Q v H' → CE out P w H t Q u t' := fun {σ' H' v u} J rv q => ⟨v, H', J.os, J.bare, J.base, J.hok, rv, q⟩
  match fl, hs with
  | .ret u, ⟨v, σ', H', J, rv, q⟩ => exact fin J rv q
  | .next, ⟨σ', H', J, q⟩ => exact fin (v := V.non) (u := Value.none) J rfl q
  | .brk, ⟨_, _, _, q⟩ => exact False.elim q
  | .cont, ⟨_, _, _, q⟩ => exact False.elim q
section
variable {X : Cx} {k : Nat} {f C : Addr} {fd : FuncData} {ps : List Str} {x m : Str} {q pos apos : Pos} {e o : Expr} {es : List Expr} {ta : TE} {t : TA}
/-- it is called -/
theorem pe_callE {G : Addr × Obj → Prop} {sp : Addr → Sp} {E : L2.St → XK} {a : Addr} {oe : Obj} (F : FnE X.prog X.w X.K X.mg X.base k f fd ps G sp) (hG : G (a, oe)) (hot : Hot1 X.A (a, oe)) (hp : (a, oe) ∈ X.pn) (hr : RoomH k X.A) (hg : Gl X x) (hm : X.mg x = some (.ref f)) (hk : PySem.W.keepIn X.K (.ref f) = true)
    (hb : Binds X.K fd ps []) (ha : PA X (e :: es) t) (hdb : (x == ("__debug__" : Str)) = false := by decide) (he : starEach (e :: es) X.env = (false, eval e X.env) :: starEach es X.env := by rfl) (hpl : (backTo pos (starEach es X.env)).any (·.1) = false := by rfl) :
    PE X (.Call (.Name x q) (e :: es) [] pos) (tCallS (sp a) E t) := by
  refine ⟨fun pins s σ H Q J h => wpAny_Call_Name_kw (ld_glob J hg hm ?_ hdb)⟩
  refine PySem.W.callWith_K (h₀ := X.base) J.ok.mod.kin hk (thn (ha.run pos pins s σ H _ J h) fun us s1 ⟨vs, H1, J1, r, k1⟩ => ⟨J1.kIn, ?_⟩) he hpl
  have b := hb s1 us J1.kIn (by rw [List.append_nil, ← r.length]; exact F.len _ _ _ _ _ k1)
  rw [List.append_nil] at b
  obtain ⟨g1, g2, g3, g4, g5⟩ := J1.pin (a, oe) (List.mem_append_left _ hp)
  have pk : PinOk X.stack H1 s1 (a, oe) := ⟨g1, g2, fun z => (List.mem_cons.mp (J1.stkSub _ z)).elim g3 g4, g5⟩
  refine wpAny_call (codeAny_mono (F.run X.A X.stack s1 H1 ⟨us, []⟩ us vs Q (E σ) (a, oe) hG hr hot pk J1.env0 b r k1) fun rs s' hq => ?_)
  match rs, hq with
  | .error _, z => exact False.elim z
  | .ok (.ret u), z => exact J1.after z
  | .ok .next, z => exact False.elim z
  | .ok .brk, z => exact False.elim z
  | .ok .cont, z => exact False.elim z
/-- isinstance(e, c), e the exception that is handled -/
theorem call_isP {a D : Addr} {oe : Obj} (C : ExcC X.K D) (hz : Zc (.ref D) none oe) (hf : ∃ vs, oe.data = .fields vs) (hp : (a, oe) ∈ X.pn) : CallR X (.builtin "isinstance") (rIsE X.K D a) := by
  intro pins s σ H xs us Q J r h
  obtain ⟨c, cv, b, rfl, hcv, eb, q⟩ := h
  match us, r with
  | _, .cons rx (.cons rt .nil) =>
    cases rx
    have ec := hcv _ rt
    subst ec
    have hget := (J.pin (a, oe) (List.mem_append_left _ hp)).1
    obtain ⟨vs, hv⟩ := hf
    have at_ : PySem.W.InstAt s.heap a oe D none := by
      obtain ⟨oc, od, oda, osl⟩ := oe
      obtain ⟨h1, h2⟩ := hz
      dsimp only at h1 h2 hv
      subst h1 h2 hv
      exact ⟨hget, rfl, rfl, trivial⟩
    exact PySem.W.kia_one (PySem.W.handS_kitx_exc C.hg C.hk C.hs C.hd C.ha C.hn C.ht C.hm) J.kIn at_ eb (fun z => nomatch z) fun tk => ⟨.bl b, H, J.kept (t' := tk) fun _ _ z => z, rfl, q⟩
/-- o.m(..), out of which an exception may come that hangs on the slots -/
def tMethS (C : Addr) (m : Str) (sp : Sp) (E : L2.St → XK) (ta : TE) (t : TA) : TE := fun σ H Q => ta σ H fun x H1 => ∃ a dx fs, x = .ref a ∧ H1 a = some (.ins C dx fs) ∧ fs.lookup m = none ∧ t σ H1 fun vs H2 => sp (x :: vs) H2 Q (E σ)
theorem pe_methS {CX : CXT} {sp : Sp} {E : L2.St → XK} {pl : Sem Bool} (he : PE X o ta) (c : Cls X.K C) (hm : Meth X.K C m f) (F : FnOk X.prog X.w X.K X.mg X.base CX k f fd ps sp) (hr : Room k X.A) (hb : Binds X.K fd ps []) (hx : ∀ σ, PassesAt CX X σ (E σ)) (ha : PA X (e :: es) t)
    (hst : starEach (e :: es) X.env = (false, eval e X.env) :: starEach es X.env := by rfl) (hpl : (backTo pos (starEach es X.env)).any (·.1) = false := by rfl)
    (ht : eval (.Call (.Attribute o m apos) (e :: es) [] pos) X.env = (do
      let ov ← eval o X.env
      standAt apos.atName
      let (g, first) ← holding [ov] (getMethod ov m pl)
      callWith pos g first (backTo pos (starEach (e :: es) X.env)) (backToKw pos (keywordEach [] X.env))) := by rfl) :
    PE X (.Call (.Attribute o m apos) (e :: es) [] pos) (tMethS C m sp E ta t) := by
  refine ⟨fun pins s σ H Q J h => PySem.W.methodCall_KW (pl := pl) (thn (he.run pins s σ H _ J h) fun u s1 ⟨x, H1, J1, rx, a, dx, fs, ex, ea, l, q⟩ => ?_) ht⟩
  subst ex
  obtain rfl : u = Value.ref a := rx
  refine getmeth_ok J1 ea c hm l (PySem.W.callWith_K (first := [.ref a]) (h₀ := X.base) J1.ok.mod.kin hm.kp (thn (ha.run pos pins s1 σ H1 _ J1 q) fun us s2 ⟨vs, H2, J2, r, q2⟩ => ⟨J2.kIn, ?_⟩) hst hpl)
  exact run_fnS (us := .ref a :: us) (vs := .ref a :: vs) F hr hb (hx σ) J2 (.cons rfl r) q2
end
end
section
variable {X : Cx} {sts : List Stmt} {t u : TS}
theorem pss_known {cls : Value} {d : Option Addr} {D : Addr} {oe : Obj} (hz : L2N.Zn cls d oe) (h : L2N.Zn (.ref D) none oe → PSs X sts t) : PSs X sts (fun Dn σ H => (cls = .ref D ∧ d = none) ∧ t Dn σ H) :=
  ⟨fun pins s σ H Dn J q => (h (by
    obtain ⟨⟨rfl, rfl⟩, _⟩ := q
    exact hz)).run pins s σ H Dn J q.2⟩
theorem pss_or (h : PSs X sts t) (h2 : PSs X sts u) : PSs X sts (fun Dn σ H => t Dn σ H ∨ u Dn σ H) := ⟨fun pins s σ H Dn J q => q.elim (h.run pins s σ H Dn J) (h2.run pins s σ H Dn J)⟩
theorem tk0 : L2N.Takes X (fun _ _ _ _ => False) := fun _ _ ⟨_, _, _, _, _, _, _, _, _, _, _, _, _, _, _, _, w⟩ => w.elim
end
theorem op_eqK {X : Cx} {K : PySem.W.Frag} (hK : X.K = K) (hu : X.A.units + 64 < cLine) : OpR X (compareOp .Eq) (rEqD K) := hK ▸ op_eqD hu
theorem _root_.L2H.RoomH.units {k : Nat} {A : Around} (r : L2H.RoomH k A) : A.units + 64 < cLine := by have := r.un; omega
open HotX L2H in
theorem roomH_mark {k : Nat} {A : Around} {v : Option Value} (r : RoomH k A) : RoomH k (A.mark v) := ⟨r.dp, r.un⟩
open HotX L2H in
theorem hot1_of {A : Around} {a : Addr} {oe : Obj} {D : Value} {d : Option Addr} (hz : L2N.Zn D d oe) (hf : ∃ vs, oe.data = .fields vs) : Hot1 (A.mark (some (.ref a))) (a, oe) := ⟨rfl, hf.elim fun vs h => ⟨vs, h, hz.2.2 vs h⟩⟩
/-- a def out of whose body an exception may come -/
theorem okX {P : Program} {w : World} {K : PySem.W.Frag} {mg : Str → Option Value} {base : Heap} {x qual : Str} {params : Arguments} {body : List Stmt} {scope : Scope} {dvs : List V} {kws : List (Str × V)} {f : Addr} {fd : FuncData}
    {N ps : List Str} {k : Nat} {sp : Sp} (F : FunD K x qual params body scope dvs kws f fd) (S : FnScope N ps scope) (len : ∀ vs H Q E, sp vs H Q E → vs.length = ps.length)
    (hbody : ∀ (cdv : Value) (A : Around) (outer : List Env) (s : Shared) (H : Hp) (vs : List V) (Q : VK) (E : XK), Room k (A.deeper (envOfC qual scope s.heap.objs.size f cdv)) → L2N.Takes (cxOf (L2N.CX P w) P w K mg base N qual scope f cdv A outer s H E) (fun cls d _ H => E cls d H) →
      PassesOwn (model P w) (cxOf (L2N.CX P w) P w K mg base N qual scope f cdv A outer s H E).A (cxOf (L2N.CX P w) P w K mg base N qual scope f cdv A outer s H E).env (cxOf (L2N.CX P w) P w K mg base N qual scope f cdv A outer s H E).xe → sp vs H Q E →
      ∃ t, PSs (cxOf (L2N.CX P w) P w K mg base N qual scope f cdv A outer s H E) body t ∧ t { nx := fun _ H' => Q .non H', rt := Q } (L2.start N vs) H) : FnOk P w K mg base (L2N.CX P w) (k + 1) f fd ps sp :=
  F.ok S len fun cdv A outer s H vs Q E hr h => hbody cdv A outer s H vs Q E hr (L2N.takes_of rfl rfl rfl rfl) (passes_of rfl) h
section
variable {K : PySem.W.Frag} {σ : L2.St} {H : Hp} {ta tb te : TE} {E : L2.St → XK}
theorem ev_isE {D a c : Addr} {b : Bool} (ha : Ev ta σ H (.ref a)) (e : PySem.W.kitOne K (.ref D) (.ref c) = some b) : Ev (tCB (rIsE K D a) (tCons ta (tCons (tC (.ref c)) tNil))) σ H (.bl b) := fun H1 e1 Q q =>
  ha H1 e1 _ fun H2 e2 => ⟨.ref c, .ref c, b, rfl, fun u r => r, e, q H2 e2⟩
theorem ev_isEt {D a : Addr} {n : String} {b : Bool} (ha : Ev ta σ H (.ref a)) (e : PySem.W.kitOne K (.ref D) (.type n) = some b) : Ev (tCB (rIsE K D a) (tCons ta (tCons (tC (.ty n)) tNil))) σ H (.bl b) := fun H1 e1 Q q =>
  ha H1 e1 _ fun H2 e2 => ⟨.ty n, .type n, b, rfl, fun u r => r, e, q H2 e2⟩
theorem ek_two {x y : List V} (ha : EvU ta σ H x) (hb : EvU tb σ H y) : EvK (tLst (tCons ta (tCons tb tNil))) σ H (RetTw [x, y]) := fun H1 e Q q =>
  ha H1 e _ fun p H2 hp e2 h2 => hb H2 (e.trans e2) _ fun r H3 hr e3 h3 => ⟨by show 2 ≤ sizeLine; exact sz_of (by decide), fun l hl => q l _ _ ((e2.trans e3).trans (Ex.new hl)) upd_same ⟨rfl, fun i z hz => by
    have n2 := e3 _ _ h2
    match i, hz with
    | 0, hz => exact ⟨p, rfl, by rw [upd_ne fun z => by rw [z, hl] at n2; cases n2]; cases hz; exact n2⟩
    | 1, hz => exact ⟨r, rfl, by rw [upd_ne fun z => by rw [z, hl] at h3; cases h3]; cases hz; exact h3⟩⟩⟩
theorem Tups.cat {vs us : List V} {xs ys : List (List V)} (h : Tups H vs xs) (g : Tups H us ys) : Tups H (vs ++ us) (xs ++ ys) := ⟨by rw [List.length_append, List.length_append, h.1, g.1], fun i x hx => by
  by_cases hi : i < xs.length
  · rw [List.getElem?_append_left hi] at hx
    rw [List.getElem?_append_left (by rw [h.1]; exact hi)]
    exact h.2 i x hx
  · rw [List.getElem?_append_right (by omega)] at hx
    rw [List.getElem?_append_right (by rw [h.1]; omega), h.1]
    exact g.2 _ x hx⟩
theorem ek_catT {xs ys : List (List V)} (ha : EvK ta σ H (RetTw xs)) (hb : EvK tb σ H (RetTw ys)) (hz : xs.length + ys.length ≤ 100000) : EvK (tOp rCat ta tb) σ H (RetTw (xs ++ ys)) := fun H1 e Q q =>
  ha H1 e _ fun a H2 us e2 h2 t2 => hb H2 (e.trans e2) _ fun b H3 vs e3 h3 t3 => ⟨a, b, us, vs, rfl, rfl, e3 _ _ h2, h3, sz_of (by rw [t2.1, t3.1]; exact hz), fun p hp =>
    q p _ _ ((e2.trans e3).trans (Ex.new hp)) upd_same (((t2.ex e3).cat t3).ex (Ex.new hp))⟩
/-- the words of the pairs that fit -/
theorem el_words {l : Addr} {us : List V} {ps : List (Str × Bool)} {tl : TE} {tt : TT} {i j : Nat} (h : Ev tl σ H (.ref l)) (hl : H l = some (.lst us)) (hT : Tups H us (ps.map fun p => [.str p.1, .bl p.2])) (hz : ps.length ≤ 40000) (hij : i ≠ j) (hi : i < σ.length)
    (hw : ∀ x y, wipe (((wipe σ [i, j]).set i (some x)).set j (some y)) [i, j] = wipe σ [i, j])
    (ht : ∀ (w : Str) (b : Bool) H1, Ex H H1 → EvT tt (((wipe σ [i, j]).set i (some (.str w))).set j (some (.bl b))) H1 b) :
    EvL (tLc (iList K tl) (gTup K 2 (gCons (gName i) (gCons (gName j) gNil))) tt (tVar i) [i, j]) σ H ((ps.filter (·.2)).map fun p => .str p.1) := by
  have hlen : us.length = ps.length := hT.1.trans (List.length_map _)
  have at_ : ∀ (n : Nat) (x : V), us[n]? = some x → ∃ q, x = .ref q ∧ ∀ H1, Ex H H1 → H1 q = some (.tup [.str (ps.getD n ("", false)).1, .bl (ps.getD n ("", false)).2]) := fun n x hx => by
    obtain ⟨q, y, rfl, hy, hq⟩ := hT.at hx
    rw [List.getElem?_map] at hy
    cases hp : ps[n]? with
    | none => rw [hp] at hy; cases hy
    | some p =>
      rw [hp] at hy
      cases hy
      rw [getD_of hp]
      exact ⟨q, rfl, fun H1 e => e _ _ hq⟩
  have r := el_lcS (K := K) (σ := σ) (H := H) (g := gTup K 2 (gCons (gName i) (gCons (gName j) gNil))) (t := tt) (te := tVar i) (vs := [i, j]) (fun n => ((wipe σ [i, j]).set i (some (.str (ps.getD n ("", false)).1))).set j (some (.bl (ps.getD n ("", false)).2))) (fun n => (ps.getD n ("", false)).2) (fun n => .str (ps.getD n ("", false)).1) (es_of h (sq_of hl)) (by omega)
    (fun n x H1 e1 hx Q qq => by
      obtain ⟨q, rfl, hq⟩ := at_ n x hx
      exact g_tup2 (hq H1 e1) qq)
    (fun n x hx => hw _ _) (fun n x H1 e1 hx => ht _ _ H1 e1) (fun n x H1 e1 hx _ => ev_var (by
      rw [List.getElem?_set_ne (Ne.symm hij), List.getElem?_set_self (by rw [wipe_length]; exact hi)]))
  rw [hlen] at r
  have eg : given ps.length (fun n => (ps.getD n ("", false)).2) (fun n => V.str (ps.getD n ("", false)).1) = (ps.filter (·.2)).map fun p => .str p.1 := by
    unfold given
    have := map_getD ps (("", false) : Str × Bool) id
    rw [List.map_id] at this
    conv => rhs; rw [← this]
    rw [List.filter_map, List.map_map]
    rfl
  rw [eg] at r
  exact r
theorem dp_strs : ∀ xs : List Str, DpAll K H (xs.map V.str) (xs.map PyData.str)
  | [] => .nil
  | x :: xs => .cons (.str x) (dp_strs xs)
theorem lay_strs : ∀ xs : List Str, xs.all PyData.strOk = true → PyData.canLayAll0 (xs.map PyData.str) = true ∧ PyData.depthAll (xs.map PyData.str) ≤ 1
  | [], _ => ⟨rfl, by rw [List.map_nil, PyData.depthAll]; omega⟩
  | x :: xs, h => by
    rw [List.all_cons, Bool.and_eq_true] at h
    obtain ⟨h1, h2⟩ := lay_strs xs h.2
    refine ⟨?_, ?_⟩
    · rw [List.map_cons, PyData.canLayAll0, h1, PyData.canLay0, h.1]
      rfl
    · rw [List.map_cons, PyData.depthAll, PyData.depth]
      omega
theorem shaped_strs (xs : List Str) (hx : xs.all PyData.strOk = true) : SeqAt.shaped (.list (xs.map PyData.str)) = true := by
  unfold SeqAt.shaped
  rw [PyData.canLay0, (lay_strs xs hx).1, Bool.true_and, decide_eq_true_iff, PyData.depth]
  have := (lay_strs xs hx).2
  omega
theorem eqv_strs : ∀ xs ys : List Str, PyData.eqvAll (xs.map PyData.str) (ys.map PyData.str) = decide (xs = ys)
  | [], [] => by simp [PyData.eqvAll]
  | [], y :: ys => by simp [PyData.eqvAll]
  | x :: xs, [] => by simp [PyData.eqvAll]
  | x :: xs, y :: ys => by
    rw [List.map_cons, List.map_cons, PyData.eqvAll, eqv_strs xs ys, PyData.eqv]
    by_cases h : x = y
    · subst h
      simp
    · simp [h]
theorem ev_strsEq {xs ys : List Str} (ha : EvL ta σ H (xs.map V.str)) (hb : EvL tb σ H (ys.map V.str)) (hx : xs.all PyData.strOk = true) (hy : ys.all PyData.strOk = true) : Ev (tOp (rEqD K) ta tb) σ H (.bl (decide (xs = ys))) := ev_opLL ha hb fun p q H1 hp hq e => by
  have r := rv_eqD (K := K) (H := H1) (x := .ref p) (y := .ref q) (d := .list (xs.map PyData.str)) (e := .list (ys.map PyData.str)) (fun _ e => .lst (sq_of (e _ _ hp)) (dp_strs xs)) (fun _ e => .lst (sq_of (e _ _ hq)) (dp_strs ys)) (shaped_strs _ hx) (shaped_strs _ hy)
  rw [PyData.eqv, eqv_strs] at r
  exact r
theorem ev_strsNil {p : Addr} {xs : List Str} (ha : Ev ta σ H (.ref p)) (h : H p = some (.lst (xs.map V.str))) (hx : xs.all PyData.strOk = true) : Ev (tOp (rEqD K) ta (tLst tNil)) σ H (.bl (decide (xs = []))) :=
  ev_opL ha (el_lst ea_nil (by simp)) fun q H1 hq e1 => by
    have r := rv_eqD (K := K) (H := H1) (x := .ref p) (y := .ref q) (d := .list (xs.map PyData.str)) (e := .list (([] : List Str).map PyData.str)) (fun _ e => .lst (sq_of (e _ _ (e1 _ _ h))) (dp_strs xs)) (fun _ e => .lst (sq_of (e _ _ hq)) (dp_strs [])) (shaped_strs _ hx) (shaped_strs _ rfl)
    rw [PyData.eqv, eqv_strs] at r
    exact r
theorem el_callS {xs : List V} {sp : Sp} {vs : List V} {t : TA} (h : EvA t σ H vs) (hs : ∀ H1, Ex H H1 → ∀ Q E, RetL xs H1 Q → sp vs H1 Q E) : EvL (tCallS sp E t) σ H xs := fun H1 e Q q =>
  h H1 e _ fun H2 e2 => hs H2 (e.trans e2) Q _ fun p H3 hp e3 h3 => q p H3 (fresh_back e2 hp) (e2.trans e3) h3
/-- a call out of which an exception comes -/
theorem s_callX {sp : Sp} {vs : List V} {W : L2.WX} {t : TA} {D : Ends} (h : EvA t σ H vs) (hs : ∀ H1, Ex H H1 → sp vs H1 (fun _ H' => D.nx σ H') (WE W σ)) : tDrop (tCallS sp (WE W) t) D σ H := h H (Ex.refl H) _ fun H1 e1 => hs H1 e1
end
def wordsOf (b1 b2 b3 b4 b5 b6 : Bool) : List Str := (([("count", b1), ("meeting", b2), ("delay", b3), ("apart", b4), ("ring", b5), ("pace", b6)] : List (Str × Bool)).filter (·.2)).map (·.1)
def sp_law_words (ws : List Str) (a : Addr) : Sp := fun vs H Q _ => vs = [.ref a] ∧ RetL (ws.map V.str) H Q
def IsExc (D : Addr) (p : Addr × Obj) : Prop := Zc (.ref D) none p.2 ∧ ∃ vs, p.2.data = .fields vs
theorem isExc_of {D a : Addr} {oe : Obj} (hz : L2N.Zn (.ref D) none oe) (hf : ∃ vs, oe.data = .fields vs) : IsExc D (a, oe) := ⟨⟨hz.1, hz.2.1⟩, hf⟩
abbrev s_law_words : Stmt := (top 37)
abbrev N_law_words : List Str := ["_law_e", "_law_some", "_law_found", "_law_word", "_law_fits"]
theorem sc_law_words : FnScope N_law_words ["_law_e"] (defScope s_law_words) := ⟨rfl, rfl, rfl, by decide +kernel, rfl, by decide +kernel, by decide +kernel⟩

open L2H in
theorem ok_law_words (T : Txt K mg) {D : Addr} {b1 b2 b3 b4 b5 b6 : Bool} (EC : ExcAt K D T.a_PaceError) (KT : KitAt K D [(T.a_BadCount, b1), (T.a_NoMeeting, b2), (T.a_BadDelay, b3), (T.a_Apart, b4), (T.a_NoRing, b5), (T.a_BadPace, b6)]) (ne : wordsOf b1 b2 b3 b4 b5 b6 ≠ []) (ok : (wordsOf b1 b2 b3 b4 b5 b6).all PyData.strOk = true) :
    FnE P w K mg base 1 T.a_law_words T.d_law_words ["_law_e"] (IsExc D) (sp_law_words (wordsOf b1 b2 b3 b4 b5 b6)) := by
  refine okE T.F_law_words sc_law_words (fun a vs H Q E h => by rw [h.1]; rfl) (fun cdv A outer s H vs Q E p hG hot HR h => ?_)
  obtain ⟨hz, hf⟩ := hG
  obtain ⟨rfl, q⟩ := h
  refine ⟨_, (pss_cons (ps_set (i := 1) sc_law_words.nd rfl (by first | exact Or.inl rfl | exact Or.inr rfl) (pe_lst (pa_cons (pe_tup (pa_cons pe_str (pa_cons (pe_callB (call_isP (a := p.1) (oe := p.2) EC.c hz hf (by exact List.mem_singleton_self p)) (by rfl) T.n_isinstance (by decide +kernel) (pa_cons (pv 0) (pa_cons (pe_glob (v := .ref T.a_BadCount) (by rfl) T.g_BadCount rfl) pa_nil))) pa_nil))) (pa_cons (pe_tup (pa_cons pe_str (pa_cons (pe_callB (call_isP (a := p.1) (oe := p.2) EC.c hz hf (by exact List.mem_singleton_self p)) (by rfl) T.n_isinstance (by decide +kernel) (pa_cons (pv 0) (pa_cons (pe_glob (v := .ref T.a_NoMeeting) (by rfl) T.g_NoMeeting rfl) pa_nil))) pa_nil))) pa_nil))))
  (pss_cons (ps_set (i := 1) sc_law_words.nd rfl (by first | exact Or.inl rfl | exact Or.inr rfl) (pe_op op_cat (pv 1) (pe_lst (pa_cons (pe_tup (pa_cons pe_str (pa_cons (pe_callB (call_isP (a := p.1) (oe := p.2) EC.c hz hf (by exact List.mem_singleton_self p)) (by rfl) T.n_isinstance (by decide +kernel) (pa_cons (pv 0) (pa_cons (pe_glob (v := .ref T.a_BadDelay) (by rfl) T.g_BadDelay rfl) pa_nil))) pa_nil))) (pa_cons (pe_tup (pa_cons pe_str (pa_cons (pe_callB (call_isP (a := p.1) (oe := p.2) EC.c hz hf (by exact List.mem_singleton_self p)) (by rfl) T.n_isinstance (by decide +kernel) (pa_cons (pv 0) (pa_cons (pe_glob (v := .ref T.a_Apart) (by rfl) T.g_Apart rfl) pa_nil))) pa_nil))) pa_nil)))))
  (pss_cons (ps_set (i := 1) sc_law_words.nd rfl (by first | exact Or.inl rfl | exact Or.inr rfl) (pe_op op_cat (pv 1) (pe_lst (pa_cons (pe_tup (pa_cons pe_str (pa_cons (pe_callB (call_isP (a := p.1) (oe := p.2) EC.c hz hf (by exact List.mem_singleton_self p)) (by rfl) T.n_isinstance (by decide +kernel) (pa_cons (pv 0) (pa_cons (pe_glob (v := .ref T.a_NoRing) (by rfl) T.g_NoRing rfl) pa_nil))) pa_nil))) (pa_cons (pe_tup (pa_cons pe_str (pa_cons (pe_callB (call_isP (a := p.1) (oe := p.2) EC.c hz hf (by exact List.mem_singleton_self p)) (by rfl) T.n_isinstance (by decide +kernel) (pa_cons (pv 0) (pa_cons (pe_glob (v := .ref T.a_BadPace) (by rfl) T.g_BadPace rfl) pa_nil))) pa_nil))) pa_nil)))))
  (pss_cons (ps_setLcH (i := 2) (g := (gTup K 2 (gCons (gName 3) (gCons (gName 4) gNil)))) (tt := (tAnd (tB (tVar 4)) (tB (tCB (rIsE K D p.1) (tCons (tVar 0) (tCons (tC (.ty "ValueError")) tNil)))))) (te := (tVar 3)) (own := [("_law_word", 3), ("_law_fits", 4)]) hot sc_law_words.nd rfl rfl (sw_true rfl rfl rfl (by decide +kernel)) (pi_listH (pv 1)) (blkOk_by (own := [("_law_word", 3), ("_law_fits", 4)]) (N := N_law_words) (sc := defScope s_law_words) (by decide +kernel)) (fun _ _ _ _ _ => (pg_tupH (hot_blk hot) (pgs_cons (pg_name (i := 3) sc_law_words.nd rfl (by first | exact Or.inl rfl | exact Or.inr rfl)) (pgs_cons (pg_name (i := 4) sc_law_words.nd rfl (by first | exact Or.inl rfl | exact Or.inr rfl)) pgs_nil)))) (fun _ _ _ _ _ => (pts_one (PW.pt (pw_and (pt_val (pv 4)) (pw_and1 (pt_val (pe_callB (call_isP (a := p.1) (oe := p.2) EC.c hz hf (by exact List.mem_singleton_self p)) (by rfl) T.n_isinstance (by decide +kernel) (pa_cons (pv 0) (pa_cons (pe_bltn (v := .ty "ValueError") (by rfl) T.n_ValueError (by decide +kernel) rfl) pa_nil))))))))) (fun _ _ _ _ _ => (pv 3)))
  (pss_cons (ps_if (pt_cmpR (op_eqD HR.units) (pv 2) (pe_lst pa_nil) (nomark _))
  (pss_one (ps_ret (pe_lst (pa_cons pe_str pa_nil)))) pss_nil)
  (pss_one (ps_ret (pv 2)))))))), ?_⟩
  have k1 := KT _ (List.mem_cons_self)
  have k2 := KT _ (List.mem_cons_of_mem _ List.mem_cons_self)
  have k3 := KT _ (List.mem_cons_of_mem _ (List.mem_cons_of_mem _ List.mem_cons_self))
  have k4 := KT _ (List.mem_cons_of_mem _ (List.mem_cons_of_mem _ (List.mem_cons_of_mem _ List.mem_cons_self)))
  have k5 := KT _ (List.mem_cons_of_mem _ (List.mem_cons_of_mem _ (List.mem_cons_of_mem _ (List.mem_cons_of_mem _ List.mem_cons_self))))
  have k6 := KT _ (List.mem_cons_of_mem _ (List.mem_cons_of_mem _ (List.mem_cons_of_mem _ (List.mem_cons_of_mem _ (List.mem_cons_of_mem _ List.mem_cons_self)))))
  have two : ∀ {n m : Str} {c d : Addr} {b b' : Bool} (σ : L2.St) (H1 : Hp), σ[0]? = some (some (.ref p.1)) → PySem.W.kitOne K (.ref D) (.ref c) = some b → PySem.W.kitOne K (.ref D) (.ref d) = some b' →
      EvK (tLst (tCons (tTup (tCons (tC (.str n)) (tCons (tCB (rIsE K D p.1) (tCons (tVar 0) (tCons (tC (.ref c)) tNil))) tNil))) (tCons (tTup (tCons (tC (.str m)) (tCons (tCB (rIsE K D p.1) (tCons (tVar 0) (tCons (tC (.ref d)) tNil))) tNil))) tNil))) σ H1 (RetTw [[.str n, .bl b], [.str m, .bl b']]) := fun σ H1 h0 h1 h2 =>
    ek_two (eu_tup (ea_cons ev_c (ea_cons (ev_isE (ev_var h0) h1) ea_nil)) (by show 2 ≤ 100000; decide)) (eu_tup (ea_cons ev_c (ea_cons (ev_isE (ev_var h0) h2) ea_nil)) (by show 2 ≤ 100000; decide))
  refine q_asgK (two _ _ rfl k1 k2) fun D1 H1 u1 e1 h1 t1 => ?_
  refine q_asgK (ek_catT (ek_stand (ev_var rfl) h1 t1) (two _ _ rfl k3 k4) (by show 4 ≤ 100000; decide)) fun D2 H2 u2 e2 h2 t2 => ?_
  refine q_asgK (ek_catT (ek_stand (ev_var rfl) h2 t2) (two _ _ rfl k5 k6) (by show 6 ≤ 100000; decide)) fun D3 H3 u3 e3 h3 t3 => ?_
  refine q_asgL (el_words (ps := [("count", b1), ("meeting", b2), ("delay", b3), ("apart", b4), ("ring", b5), ("pace", b6)]) (i := 3) (j := 4) (ev_var rfl) h3 t3 (by show 6 ≤ 40000; decide) (by decide) (by show 3 < 5; decide) (fun x y => rfl) (fun n b H4 e4 => et_is (et_and (a := b) (et_B (ev_var rfl)) fun _ => et_B (ev_isEt (ev_var rfl) EC.v)) (Bool.and_true b))) fun l H4 hl e4 h4 => ?_
  have h4' : H4 l = some (.lst ((wordsOf b1 b2 b3 b4 b5 b6).map V.str)) := by
    rw [h4]
    unfold wordsOf
    rw [List.map_map]
    rfl
  have e14 := ((e1.trans e2).trans e3).trans e4
  refine q_when (b := false) (et_is (et_test (ev_strsNil (ev_var rfl) h4' ok)) (decide_eq_false ne)) (fun z => by cases z) fun _ H5 e5 => ?_
  exact s_ret (ev_var rfl) fun H6 e6 => q l H6 (fresh_back ((e1.trans e2).trans e3) hl) (e14.trans (e5.trans e6)) ((e5.trans e6) _ _ h4')
/-! ### a block over a tuple -/
section
variable {K : PySem.W.Frag} {σ : L2.St} {H : Hp} {ta tb tl te : TE} {t : TT}
theorem el_lcTp {a : Addr} {xs : List V} {j : Nat} {vs : List Nat} (f : Nat → Bool) (v : Nat → V) (h : Ev tl σ H (.ref a)) (hx : H a = some (.tup xs)) (hz : xs.length ≤ 40000) (hw : ∀ x, wipe ((wipe σ vs).set j (some x)) vs = wipe σ vs)
    (ht : ∀ (i : Nat) (x : V) H1, Ex H H1 → xs[i]? = some x → EvT t ((wipe σ vs).set j (some x)) H1 (f i)) (he : ∀ (i : Nat) (x : V) H1, Ex H H1 → xs[i]? = some x → f i = true → Ev te ((wipe σ vs).set j (some x)) H1 (v i)) :
    EvL (tLc (iTup K tl) (gName j) t te vs) σ H (given xs.length f v) := fun H0 e Q q => h H0 e _ fun H1 e1 => ⟨a, rfl, ⟨xs, st_of ((e.trans e1) _ _ hx)⟩, fun Dl hD =>
  lc_tup (xs := xs) (Cw H1 f v Dl) ⟨hD, Ex.new hD, upd_same⟩ (fun i H' _ p => ex_t ((e.trans e1).trans p.2.1) (st_of hx)) (fun i x H' hi p => ⟨hw x, cw_turn p (by have := (List.getElem?_eq_some_iff.mp hi).1; omega) (ht i x H1 (e.trans e1) hi) (fun hf => he i x H1 (e.trans e1) hi hf)⟩)
    (fun H' p => q Dl H' (fresh_back e1 p.1) (e1.trans p.2.1) p.2.2)⟩
end
/-- a walk until a meeting comes twice -/
structure Gone (n : Nat) (ws : List Way) (rr : List Nat) (h : Nat) : Prop where
  nd : rr.Nodup
  lt : ∀ x ∈ rr, x < n
  hlt : h < n
  way : ∀ i, i + 1 < rr.length → (rr.getD i 0, rr.getD (i + 1) 0) ∈ edges ws
  last : rr ≠ [] → (rr.getD (rr.length - 1) 0, h) ∈ edges ws
theorem Gone.step {n : Nat} {ws : List Way} {rr : List Nat} {h g : Nat} (k : Gone n ws rr h) (hn : h ∉ rr) (hg : g < n) (hw : (h, g) ∈ edges ws) : Gone n ws (rr ++ [h]) g := by
  have gl : ∀ i, i < rr.length → (rr ++ [h]).getD i 0 = rr.getD i 0 := fun i hi => by
    rw [List.getD_eq_getElem?_getD, List.getElem?_append_left hi, List.getD_eq_getElem?_getD]
  have gr : (rr ++ [h]).getD rr.length 0 = h := by
    rw [List.getD_eq_getElem?_getD, List.getElem?_append_right (Nat.le_refl _), Nat.sub_self]
    rfl
  refine ⟨List.nodup_append.mpr ⟨k.nd, by simp, fun a ha b hb => ?_⟩, fun x hx => ?_, hg, fun i hi => ?_, fun _ => ?_⟩
  · rintro rfl
    exact hn (by rw [List.mem_singleton.mp hb] at ha; exact ha)
  · rcases List.mem_append.mp hx with z | z
    · exact k.lt x z
    · rw [List.mem_singleton.mp z]
      exact k.hlt
  · rw [List.length_append] at hi
    simp only [List.length_cons, List.length_nil] at hi
    by_cases h1 : i + 1 < rr.length
    · rw [gl i (by omega), gl (i + 1) h1]
      exact k.way i h1
    · rw [gl i (by omega), show i + 1 = rr.length by omega, gr]
      have := k.last (fun z => by rw [z] at hi; simp at hi)
      rw [show rr.length - 1 = i by omega] at this
      exact this
  · rw [List.length_append]
    simp only [List.length_cons, List.length_nil]
    rw [Nat.add_sub_cancel, gr]
    exact hw
theorem Gone.ring {n : Nat} {ws : List Way} {rr : List Nat} {h : Nat} (k : Gone n ws rr h) (hm : h ∈ rr) : IsRing n ws (rr.drop (rr.idxOf h)) := by
  have hi : rr.idxOf h < rr.length := List.idxOf_lt_length_of_mem hm
  have hlen : (rr.drop (rr.idxOf h)).length = rr.length - rr.idxOf h := List.length_drop
  have hget : ∀ t, (rr.drop (rr.idxOf h)).getD t 0 = rr.getD (rr.idxOf h + t) 0 := fun t => by
    rw [List.getD_eq_getElem?_getD, List.getElem?_drop, List.getD_eq_getElem?_getD]
  have h0 : rr.getD (rr.idxOf h) 0 = h := by
    rw [List.getD_eq_getElem?_getD, List.getElem?_eq_getElem hi]
    exact List.getElem_idxOf hi
  refine isRing_of (fun e he => ?_) (fun z => ?_) (k.nd.sublist (List.drop_sublist _ _)) (fun x hx => k.lt x (List.mem_of_mem_drop hx))
  · obtain ⟨t, ht, rfl⟩ := List.mem_map.mp he
    have ht := List.mem_range.mp ht
    rw [hlen] at ht
    rw [hget, hget, hlen]
    by_cases h1 : t + 1 < rr.length - rr.idxOf h
    · rw [Nat.mod_eq_of_lt h1]
      exact k.way _ (by omega)
    · rw [show t + 1 = rr.length - rr.idxOf h by omega, Nat.mod_self, Nat.add_zero, h0]
      have := k.last (fun z => by rw [z] at hi; simp at hi)
      rw [show rr.length - 1 = rr.idxOf h + t by omega] at this
      exact this
  · have := congrArg List.length z
    rw [hlen] at this
    simp at this
    omega
/-! ### what comes of a list of meetings -/
inductive Out
  | meeting
  | ring
  | frac (p q : Nat)
def BadM (n : Nat) (m : Int) : Prop := m < 0 ∨ (n : Int) ≤ m
def natsOf (r : List Int) : List Nat := r.map Int.toNat
noncomputable def outOf (n : Nat) (ws : List Way) (r : List Int) : Out := open Classical in
  if ∃ x ∈ r, BadM n x then .meeting else if r = [] ∨ ¬ r.Nodup ∨ ¬ isWay ws (natsOf r) then .ring else .frac (pnum ws (natsOf r)) (pdiv ws (natsOf r))
theorem out_meeting {n : Nat} {ws : List Way} {r : List Int} (h : ∃ x ∈ r, BadM n x) : outOf n ws r = .meeting := if_pos h
theorem out_ring {n : Nat} {ws : List Way} {r : List Int} (h : ∀ x ∈ r, ¬ BadM n x) (h2 : r = [] ∨ ¬ r.Nodup ∨ ¬ isWay ws (natsOf r)) : outOf n ws r = .ring := by
  unfold outOf
  rw [if_neg fun ⟨x, h1, h3⟩ => h x h1 h3, if_pos h2]
theorem out_frac {n : Nat} {ws : List Way} {r : List Int} (h : ∀ x ∈ r, ¬ BadM n x) (h1 : r ≠ []) (h2 : r.Nodup) (h3 : isWay ws (natsOf r)) : outOf n ws r = .frac (pnum ws (natsOf r)) (pdiv ws (natsOf r)) := by
  unfold outOf
  rw [if_neg fun ⟨x, h4, h5⟩ => h x h4 h5, if_neg (by
    rintro (z | z | z)
    · exact h1 z
    · exact z h2
    · exact z h3)]
theorem nats_int {n : Nat} {r : List Int} (h : ∀ x ∈ r, ¬ BadM n x) : (natsOf r).map (fun (m : Nat) => (m : Int)) = r := by
  unfold natsOf
  rw [List.map_map]
  conv => rhs; rw [← List.map_id r]
  refine List.map_congr_left fun x hx => ?_
  have := h x hx
  unfold BadM at this
  show ((x.toNat : Nat) : Int) = x
  omega
theorem nats_V {n : Nat} {r : List Int} (h : ∀ x ∈ r, ¬ BadM n x) : intV r = natV (natsOf r) := by
  rw [natV_int, nats_int h]
  rfl
theorem nats_nodup {n : Nat} {r : List Int} (h : ∀ x ∈ r, ¬ BadM n x) (nd : r.Nodup) : (natsOf r).Nodup := by
  have := nats_int h
  rw [← this] at nd
  rw [List.Nodup, List.pairwise_map] at nd
  exact nd.imp fun hne z => hne (by rw [z])
theorem nats_lt {n : Nat} {r : List Int} (h : ∀ x ∈ r, ¬ BadM n x) : ∀ m ∈ natsOf r, m < n := fun m hm => by
  obtain ⟨x, hx, rfl⟩ := List.mem_map.mp hm
  have := h x hx
  unfold BadM at this
  omega
theorem nats_ne {r : List Int} (h : r ≠ []) : natsOf r ≠ [] := fun z => h (List.map_eq_nil_iff.mp z)
theorem nats_ring {n : Nat} {ws : List Way} {r : List Int} (h : ∀ x ∈ r, ¬ BadM n x) (h1 : r ≠ []) (h2 : r.Nodup) (h3 : isWay ws (natsOf r)) : IsRing n ws (natsOf r) := isRing_of h3 (nats_ne h1) (nats_nodup h h2) (nats_lt h)
theorem kinds_all {ns : List Int} (h : ns.length ≤ kinds ns) : ns.Nodup := by
  have key : ∀ i, i ≤ (PyProof.Rows.firstMet (fun i => ns.getD i 0) i).length → ((List.range i).map fun i => ns.getD i 0).Nodup := by
    intro i
    induction i with
    | zero => exact fun _ => by simp
    | succ i ih =>
      intro hi
      rw [PyProof.Rows.firstMet_succ] at hi
      have hle := PyProof.Rows.firstMet_length_le (fun i => ns.getD i 0) i
      unfold PyProof.Rows.step_dedup at hi
      by_cases hz : (PyProof.Rows.firstMet (fun i => ns.getD i 0) i).any (· == ns.getD i 0) = true
      · rw [if_pos hz] at hi
        omega
      · rw [if_neg hz, List.length_append] at hi
        simp only [List.length_cons, List.length_nil] at hi
        rw [PyProof.Rows.firstMet_any] at hz
        rw [List.range_succ, List.map_append]
        refine List.nodup_append.mpr ⟨ih (by omega), by simp, fun x hx y hy z => hz ?_⟩
        have hy' : y = ns.getD i 0 := by simpa using hy
        exact List.any_eq_true.mpr ⟨x, hx, by rw [z, hy']; simp⟩
  have h2 := key ns.length h
  rw [map_getD ns 0 (fun x => x), List.map_id'] at h2
  exact h2
def RetOut (o : Out) (H : Hp) (Q : VK) : Prop := match o with
  | .meeting => RetV (.str "meeting") H Q
  | .ring => RetV (.str "ring") H Q
  | .frac p q => RetU [.int (p : Int), .int (q : Int)] H Q
theorem RetOut.go {o : Out} {H H' : Hp} {Q : VK} (k : RetOut o H Q) (e : Ex H H') : RetOut o H' Q := match o, k with
  | .meeting, k => mo_v _ _ _ e k
  | .ring, k => mo_v _ _ _ e k
  | .frac _ _, k => mo_u _ _ _ e k
section
variable {K : PySem.W.Frag} {σ : L2.St} {H : Hp} {ta tb tc : TE}
theorem ev_between {i j k : Int} (ha : Ev ta σ H (.int i)) (hb : Ev tb σ H (.int j)) (hc : Ev tc σ H (.int k)) : Ev (tChain (rI0 fun i j => .bl (decide (i ≤ j))) (rI0 fun i j => .bl (decide (i < j))) ta tb tc) σ H (.bl (decide (i ≤ j) && decide (j < k))) := fun H1 e Q q =>
  ha H1 e _ fun H2 e2 => hb H2 (e.trans e2) _ fun H3 e3 => ⟨i, j, rfl, rfl, decide (i ≤ j), rfl, by
    cases hz : decide (i ≤ j) with
    | false =>
      rw [if_neg (by decide)]
      rw [hz] at q
      exact q H3 (e2.trans e3)
    | true =>
      rw [if_pos rfl]
      rw [hz, Bool.true_and] at q
      exact hc H3 ((e.trans e2).trans e3) _ fun H4 e4 => ⟨j, k, rfl, rfl, q H4 ((e2.trans e3).trans e4)⟩⟩
theorem ev_neNilL {xs : List Int} (ha : EvL ta σ H (xs.map V.int)) : Ev (tOp (rNeD K) ta (tLst tNil)) σ H (.bl (!decide (xs = []))) := ev_opLL ha (el_lst ea_nil (by simp)) fun p q H1 hp hq e => by
  have r := rv_neD (K := K) (H := H1) (x := .ref p) (y := .ref q) (dp_il hp) (dp_il (xs := []) hq) (shaped_ints _) (shaped_ints _)
  rw [PyData.eqv, eqv_ints] at r
  exact r
end
def sp_law_due : Sp := fun vs H Q _ => ∃ (a b : Addr) (n : Nat) (ws : List Way) (vw : List V) (r : List Int), vs = [.ref a, .ref b, .int (n : Int)] ∧ H a = some (.lst vw) ∧ Tups H vw (ws.map wayV) ∧ WebOk n ws ∧ H b = some (.lst (intV r)) ∧ r.length ≤ 40 ∧ RetOut (outOf n ws r) H Q
abbrev s_law_due : Stmt := (top 36)
abbrev N_law_due : List Str := ["_law_ways_here", "_law_ring", "_law_many_here", "_law_total", "_law_k", "_law_some", "_law_shared", "_law_meeting", "_law_way"]
theorem sc_law_due : FnScope N_law_due ["_law_ways_here", "_law_ring", "_law_many_here"] (defScope s_law_due) := ⟨rfl, rfl, rfl, by decide +kernel, rfl, by decide +kernel, by decide +kernel⟩

theorem ok_law_due (T : Txt K mg) : FnOk P w K mg base CX0 2 T.a_law_due T.d_law_due ["_law_ways_here", "_law_ring", "_law_many_here"] sp_law_due := by
  refine okN T.F_law_due sc_law_due (fun vs H Q E h => ?_) (fun cdv A outer s H vs Q E HR h => ?_)
  · obtain ⟨a, b, n, ws, vw, r, rfl, _⟩ := h
    rfl
  · obtain ⟨a, b, n, ws, vw, r, rfl, ha, hT, hw, hb, hrl, q⟩ := h
    have n12 := hw.n12
    have hwl := hw.len
    have hlen : vw.length = ws.length := hT.1.trans (List.length_map _)
    have hb' : H b = some (.lst (r.map V.int)) := hb
    refine ⟨_, (pss_cons (ps_if (pt_cmpR (op_neD HR.units) (pe_lc (g := (gName 7)) (tt := (tNot (tTest (tChain (rI0 fun i j => .bl (decide (i ≤ j))) (rI0 fun i j => .bl (decide (i < j))) (tC (.int 0)) (tVar 7) (tVar 2))))) (te := (tVar 7)) (own := [("_law_meeting", 7)]) rfl sc_law_due.nd (pi_list (pv 1)) (blkOk_by (own := [("_law_meeting", 7)]) (N := N_law_due) (sc := defScope s_law_due) (by decide +kernel)) (fun _ _ _ _ _ => (pg_name (i := 7) sc_law_due.nd rfl (by first | exact Or.inl rfl | exact Or.inr rfl))) (fun _ _ _ _ _ => (pts_one (pt_not (pt_chain op_le op_lt pe_int (pv 7) (pv 2))))) (fun _ _ _ _ _ => (pv 7))) (pe_lst pa_nil) (nomark _))
  (pss_one (ps_ret pe_str)) pss_nil)
  (pss_cons (ps_if (PW.pt (pw_or (pt_cmpR (op_eqD HR.units) (pv 1) (pe_lst pa_nil) (nomark _)) (pw_or1 (pt_cmpR op_lt (pe_lenSet rfl (by rfl) T.n_len (by rfl) T.n_set (pv 1)) (pe_callB call_len_seq (by rfl) T.n_len boot_len (pa_cons (pv 1) pa_nil)) (nomark _)))))
  (pss_one (ps_ret pe_str)) pss_nil)
  (pss_cons (ps_set (i := 3) sc_law_due.nd rfl (by first | exact Or.inl rfl | exact Or.inr rfl) pe_int)
  (pss_cons (ps_for PassesOwn.never rfl (pi_range1 (by rfl) T.n_range (pa_cons (pe_callB call_len_seq (by rfl) T.n_len boot_len (pa_cons (pv 1) pa_nil)) pa_nil)) (pg_name (i := 4) sc_law_due.nd rfl (by first | exact Or.inl rfl | exact Or.inr rfl))
  (pss_cons (ps_setLc (i := 5) (g := (gName 8)) (tt := (tAnd (tTest (tOp rEq (tOp (rIxT K) (tVar 8) (tC (.int 0))) (tOp (rIxL K) (tVar 1) (tVar 4)))) (tTest (tOp rEq (tOp (rIxT K) (tVar 8) (tC (.int 1))) (tOp (rIxL K) (tVar 1) (tOp (rI (fun _ j => 0 < j) fun i j => .int (i % j)) (tOp (rI0 fun i j => .int (i + j)) (tVar 4) (tC (.int 1))) (tCB (rLenS K) (tCons (tVar 1) tNil)))))))) (te := (tOp (rIxT K) (tVar 8) (tC (.int 2)))) (own := [("_law_way", 8)]) rfl sc_law_due.nd rfl rfl (sw_true rfl rfl rfl (by decide +kernel)) (pi_list (pv 0)) (blkOk_by (own := [("_law_way", 8)]) (N := N_law_due) (sc := defScope s_law_due) (by decide +kernel)) (fun _ _ _ _ _ => (pg_name (i := 8) sc_law_due.nd rfl (by first | exact Or.inl rfl | exact Or.inr rfl))) (fun _ _ _ _ _ => (pts_one (PW.pt (pw_and (pt_cmpR op_eq (pe_ix ix_tup (pv 8) pe_int (fun _ _ => rfl)) (pe_ix ix_list (pv 1) (pv 4) (fun _ _ => rfl)) (nomark _)) (pw_and1 (pt_cmpR op_eq (pe_ix ix_tup (pv 8) pe_int (fun _ _ => rfl)) (pe_ix ix_list (pv 1) (pe_op op_mod (pe_op op_add (pv 4) pe_int) (pe_callB call_len_seq (by rfl) T.n_len boot_len (pa_cons (pv 1) pa_nil))) (fun _ _ => rfl)) (nomark _))))))) (fun _ _ _ _ _ => (pe_ix ix_tup (pv 8) pe_int (fun _ _ => rfl))))
  (pss_cons (ps_if (pt_cmpR (op_eqD HR.units) (pv 5) (pe_lst pa_nil) (nomark _))
  (pss_one (ps_ret pe_str)) pss_nil)
  (pss_one (ps_set (i := 3) sc_law_due.nd rfl (by first | exact Or.inl rfl | exact Or.inr rfl) (pe_op op_add (pv 3) (pe_callB (cr_max rfl) (by rfl) T.n_max (by decide +kernel) (pa_cons (pv 5) pa_nil))))))))
  (pss_cons (ps_set (i := 6) sc_law_due.nd rfl (by first | exact Or.inl rfl | exact Or.inr rfl) (pe_call (ok_law_common T) (HR.mono (by decide)) (by rfl) T.g_law_common T.F_law_common.kp T.b_law_common .nil pass0 (pa_cons (pv 3) (pa_cons (pe_callB call_len_seq (by rfl) T.n_len boot_len (pa_cons (pv 1) pa_nil)) pa_nil))))
  (pss_one (ps_ret (pe_tup (pa_cons (pe_op op_fdiv (pv 3) (pv 6)) (pa_cons (pe_op op_fdiv (pe_callB call_len_seq (by rfl) T.n_len boot_len (pa_cons (pv 1) pa_nil)) (pv 6)) pa_nil)))))))))), ?_⟩
    have part1 : EvL (tLc (iList K (tVar 1)) (gName 7) (tNot (tTest (tChain (rI0 fun i j => V.bl (decide (i ≤ j))) (rI0 fun i j => V.bl (decide (i < j))) (tC (.int 0)) (tVar 7) (tVar 2)))) (tVar 7) [7]) [some (.ref a), some (.ref b), some (.int (n : Int)), none, none, none, none, none, none] H ((r.filter fun x => !(decide (0 ≤ x) && decide (x < (n : Int)))).map V.int) := by
      have rr := el_lcL (K := K) (σ := [some (.ref a), some (.ref b), some (.int (n : Int)), none, none, none, none, none, none]) (H := H) (a := b) (xs := intV r) (tl := tVar 1) (j := 7) (vs := [7]) (t := tNot (tTest (tChain (rI0 fun i j => V.bl (decide (i ≤ j))) (rI0 fun i j => V.bl (decide (i < j))) (tC (.int 0)) (tVar 7) (tVar 2)))) (te := tVar 7) (fun k => !(decide (0 ≤ r.getD k 0) && decide (r.getD k 0 < (n : Int)))) (fun k => .int (r.getD k 0)) (ev_var rfl) (sq_of hb) (by rw [intV_len]; omega) (fun x => rfl)
        (fun i x H1 e1 hx => by
          have hi := (List.getElem?_eq_some_iff.mp hx).1
          rw [intV_len] at hi
          rw [intV_at hi] at hx
          obtain rfl := Option.some.inj hx
          exact et_not (et_test (ev_between ev_c (ev_var rfl) (ev_var rfl))))
        (fun i x H1 e1 hx _ => by
          have hi := (List.getElem?_eq_some_iff.mp hx).1
          rw [intV_len] at hi
          rw [intV_at hi] at hx
          obtain rfl := Option.some.inj hx
          exact ev_var rfl)
      have e0 : given (intV r).length (fun k => !(decide (0 ≤ r.getD k 0) && decide (r.getD k 0 < (n : Int)))) (fun k => V.int (r.getD k 0)) = (r.filter fun x => !(decide (0 ≤ x) && decide (x < (n : Int)))).map V.int := by
        rw [← filter_getD r 0 (fun x => !(decide (0 ≤ x) && decide (x < (n : Int)))), List.map_map, intV_len]
        rfl
      rw [e0] at rr
      exact rr
    have hflt : (r.filter fun x => !(decide (0 ≤ x) && decide (x < (n : Int)))) = [] ↔ ∀ x ∈ r, ¬ BadM n x := by
      rw [List.filter_eq_nil_iff]
      refine forall_congr' fun x => forall_congr' fun _ => ?_
      unfold BadM
      simp only [Bool.not_eq_true', Bool.and_eq_false_iff, decide_eq_false_iff_not]
      omega
    by_cases hex : ∃ x ∈ r, BadM n x
    · rw [out_meeting hex] at q
      exact q_when (b := true) (et_is (et_test (ev_neNilL part1)) (by rw [decide_eq_false fun z => hex.elim fun x hx => hflt.mp z x hx.1 hx.2]; rfl)) (fun _ H1 e1 => s_ret ev_c fun H2 e2 => q H2 (e1.trans e2)) (fun z => by cases z)
    have hbad : ∀ x ∈ r, ¬ BadM n x := fun x h1 h2 => hex ⟨x, h1, h2⟩
    refine q_when (b := false) (et_is (et_test (ev_neNilL part1)) (by rw [decide_eq_true (hflt.mpr hbad)]; rfl)) (fun z => by cases z) fun _ H1 e1 => ?_
    have kle : kinds r ≤ r.length := PyProof.Rows.firstMet_length_le _ _
    have tst : EvT (tOr (tTest (tOp (rEqD K) (tVar 1) (tLst tNil))) (tTest (tOp (rI0 fun i j => V.bl (decide (i < j))) (tLenSet K (tVar 1)) (tCB (rLenS K) (tCons (tVar 1) tNil))))) [some (.ref a), some (.ref b), some (.int (n : Int)), none, none, none, none, none, none] H1 (decide (r = []) || decide ((kinds r : Int) < (r.length : Int))) :=
      et_or (a := decide (r = [])) (et_test (ev_eqNil (ev_var rfl) (e1 _ _ hb'))) fun _ => et_test (ev_op (ev_lenSet (es_of (ev_var rfl) (sq_of (e1 _ _ hb'))) (by omega)) (ev_is (ev_len (ev_var rfl) (sq_of (e1 _ _ hb))) (by rw [intV_len])) rv_I0)
    by_cases hnd : r = [] ∨ ¬ r.Nodup
    · rw [out_ring hbad (hnd.imp id .inl)] at q
      refine q_when (b := true) (et_is tst ?_) (fun _ H2 e2 => s_ret ev_c fun H3 e3 => q H3 ((e1.trans e2).trans e3)) (fun z => by cases z)
      rcases hnd with z | z
      · rw [decide_eq_true z]
        rfl
      · have : kinds r < r.length := Nat.lt_of_not_le fun y => z (kinds_all y)
        rw [decide_eq_true (show (kinds r : Int) < (r.length : Int) by omega), Bool.or_true]
    have hr0 : r ≠ [] := fun z => hnd (.inl z)
    have hrn : r.Nodup := Classical.byContradiction fun z => hnd (.inr z)
    refine q_when (b := false) (et_is tst (by rw [decide_eq_false hr0, kinds_nodup hrn]; simp)) (fun z => by cases z) fun _ H2 e2 => ?_
    have e02 := e1.trans e2
    have hN : H b = some (.lst (natV (natsOf r))) := by rw [hb, nats_V hbad]
    generalize hrr : natsOf r = rn at hN
    have rnl : rn.length = r.length := by rw [← hrr]; unfold natsOf; rw [List.length_map]
    have rpos : 0 < rn.length := by rw [rnl]; exact List.length_pos_iff.mpr hr0
    have hget : ∀ k, k < rn.length → rn[k]? = some (rn.getD k 0) := fun k hk => by
      rw [List.getD_eq_getElem?_getD, List.getElem?_eq_getElem hk]
      rfl
    refine q_asg ev_c fun H3 e3 => ?_
    have e03 := e02.trans e3
    refine q_forR1 (n := (rn.length : Int)) (ea_cons (ev_is (ev_len (ev_var rfl) (sq_of (e03 _ _ hN))) (by rw [natV_len])) ea_nil) ⟨by omega, by omega⟩ (fun i σ' H' => ∃ (r4 r5 : Option V), σ' = [some (.ref a), some (.ref b), some (.int (n : Int)), some (.int (fsum ws ((fcyc rn).take i) : Int)), r4, r5, none, none, none] ∧ (∀ e ∈ (fcyc rn).take i, e ∈ edges ws) ∧ Ex H H')
      (fun H4 e4 => ⟨_, _, rfl, by simp, e03.trans e4⟩) ?_ ?_
    · rintro i σ' H' hi ⟨r4, r5, rfl, hall, e⟩
      have hi2 : i < rn.length := by omega
      have hm : (i + 1) % rn.length < rn.length := Nat.mod_lt _ (by omega)
      have hf := fcyc_get hi2
      generalize hA : rn.getD i 0 = A0 at hf
      generalize hB : rn.getD ((i + 1) % rn.length) 0 = B0 at hf
      refine q_asgL (xs := (dels ws A0 B0).map V.int) ?_ fun l H4 hl e4 h4 => ?_
      · have rr := el_lcS (K := K) (σ := [some (.ref a), some (.ref b), some (.int (n : Int)), some (.int (fsum ws ((fcyc rn).take i) : Int)), some (.int (i : Int)), r5, none, none, none]) (H := H') (xs := vw) (tl := tVar 0) (g := gName 8) (t := tAnd (tTest (tOp rEq (tOp (rIxT K) (tVar 8) (tC (.int 0))) (tOp (rIxL K) (tVar 1) (tVar 4)))) (tTest (tOp rEq (tOp (rIxT K) (tVar 8) (tC (.int 1))) (tOp (rIxL K) (tVar 1) (tOp (rI (fun x j => 0 < j) fun i j => V.int (i % j)) (tOp (rI0 fun i j => V.int (i + j)) (tVar 4) (tC (.int 1))) (tCB (rLenS K) (tCons (tVar 1) tNil))))))) (te := tOp (rIxT K) (tVar 8) (tC (.int 2))) (vs := [8])
          (fun k => [some (.ref a), some (.ref b), some (.int (n : Int)), some (.int (fsum ws ((fcyc rn).take i) : Int)), some (.int (i : Int)), r5, none, none, some (vw.getD k .non)]) (fun k => decide ((ws.getD k (0, 0, 0)).1 = A0) && decide ((ws.getD k (0, 0, 0)).2.1 = B0)) (fun k => .int ((ws.getD k (0, 0, 0)).2.2 : Int))
          (es_of (ev_var rfl) (sq_of (e _ _ ha))) (by omega) (fun k x H4 e4 hx Q qq => by rw [getD_of hx] at qq; exact qq) (fun k x hx => rfl)
          (fun k x H4 e4 hx => by
            obtain ⟨q, w, rfl, hw2, _, hq⟩ := wayV_at (hT.ex (e.trans e4)) hx
            rw [getD_of hx, getD_of hw2]
            refine et_and (a := decide (w.1 = A0)) (et_is (et_test (ev_op (ev_op (ev_var rfl) ev_c (rv_ixT (st_of hq) rfl)) (ev_op (ev_var rfl) (ev_var rfl) (rv_ixL (sq_of (e4 _ _ (e _ _ hN))) (at_nat (natV_at (hget i hi2))))) (rv_eq rfl))) ?_) fun _ => et_is (et_test (ev_op (ev_op (ev_var rfl) ev_c (rv_ixT (st_of hq) rfl)) (ev_op (ev_var rfl) (ev_op (ev_op (ev_var rfl) ev_c rv_I0) (ev_len (ev_var rfl) (sq_of (e4 _ _ (e _ _ hN)))) (rv_I (by show (0 : Int) < ((natV rn).length : Int); rw [natV_len]; omega))) (rv_ixL (sq_of (e4 _ _ (e _ _ hN))) (at_nat (natV_at (hget _ hm)) (by rw [natV_len, Int.natCast_emod, Int.natCast_add]; rfl)))) (rv_eq rfl))) ?_
            · rw [hA]
              exact decide_eq_decide.mpr ⟨fun z => by have := V.int.inj z; omega, fun z => by rw [z]⟩
            · rw [hB]
              exact decide_eq_decide.mpr ⟨fun z => by have := V.int.inj z; omega, fun z => by rw [z]⟩)
          (fun k x H4 e4 hx _ => by
            obtain ⟨q, w, rfl, hw2, _, hq⟩ := wayV_at (hT.ex (e.trans e4)) hx
            rw [getD_of hx, getD_of hw2]
            exact ev_op (ev_var rfl) ev_c (rv_ixT (st_of hq) rfl))
        have e0 : given vw.length (fun k => decide ((ws.getD k (0, 0, 0)).1 = A0) && decide ((ws.getD k (0, 0, 0)).2.1 = B0)) (fun k => V.int ((ws.getD k (0, 0, 0)).2.2 : Int)) = (dels ws A0 B0).map V.int := by
          rw [← delsF_eq, ← filter_getD ws (0, 0, 0) (fun w => decide (w.1 = A0) && decide (w.2.1 = B0)), List.map_map, List.map_map]
          unfold given
          rw [hlen]
          rfl
        rw [e0] at rr
        exact rr
      · have eX := e.trans e4
        by_cases hmem : (A0, B0) ∈ edges ws
        · have hnn := dels_ne.mpr hmem
          refine q_when (b := false) (et_is (et_test (ev_eqNil (ev_var rfl) h4)) (decide_eq_false hnn)) (fun z => by cases z) fun _ H5 e5 => ?_
          have htk : (fcyc rn).take (i + 1) = (fcyc rn).take i ++ [(A0, B0)] := by
            rw [List.take_add_one, hf]
            rfl
          refine s_asg (v := .int (fsum ws ((fcyc rn).take (i + 1)) : Int)) (ev_is (ev_op (ev_var rfl) (ev_max (es_of (ev_var rfl) (sq_of (e5 _ _ h4))) hnn) rv_I0) ?_) fun H6 e6 => ⟨_, _, rfl, fun x hx => ?_, (eX.trans e5).trans e6⟩
          · rw [(dmax_way hmem).2, htk]
            unfold fsum
            rw [List.map_append, List.sum_append_nat, Int.natCast_add]
            rfl
          · rw [htk] at hx
            rcases List.mem_append.mp hx with z | z
            · exact hall x z
            · rw [List.mem_singleton.mp z]
              exact hmem
        · have hno : ¬ isWay ws (natsOf r) := fun z => by
            rw [hrr] at z
            exact hmem (z _ (List.mem_of_getElem? hf))
          rw [out_ring hbad (.inr (.inr hno))] at q
          exact q_when (b := true) (et_is (et_test (ev_eqNil (ev_var rfl) h4)) (decide_eq_true (Classical.byContradiction fun z => hmem (dels_ne.mp z)))) (fun _ H5 e5 => s_ret ev_c fun H6 e6 => q H6 ((eX.trans e5).trans e6)) (fun z => by cases z)
    · rintro σ' H' ⟨r4, r5, rfl, hall, e⟩
      have hall2 : isWay ws rn := fun x hx => hall x (by
        rw [List.take_of_length_le (by rw [fcyc_len]; omega)]
        exact hx)
      have hs : fsum ws ((fcyc rn).take (rn.length : Int).toNat) = ringSum ws rn := by
        rw [List.take_of_length_le (by rw [fcyc_len]; omega), fsum_ring]
      rw [hs]
      rw [out_frac hbad hr0 hrn (by rw [hrr]; exact hall2), hrr] at q
      have hg1 : 0 < gcdR ws rn := Nat.gcd_pos_of_pos_right _ rpos
      have hg2 : gcdR ws rn ≤ rn.length := Nat.le_of_dvd rpos (Nat.gcd_dvd_right _ _)
      refine q_asg (v := .int (gcdR ws rn : Int)) (ev_callV (ea_cons (ev_var rfl) (ea_cons (ev_is (ev_len (ev_var rfl) (sq_of (e _ _ hN))) (by rw [natV_len])) ea_nil)) fun H4 e4 Q E k => ⟨ringSum ws rn, rn.length, rfl, k⟩) fun H4 e4 => ?_
      have e04 := e.trans e4
      have dg : ∀ z : Int, CDiv z (gcdR ws rn : Int) := fun z => ⟨by omega, by omega⟩
      refine s_retU (eu_tup (ea_cons (ev_is (ev_op (ev_var rfl) (ev_var rfl) (rv_I (dg _))) (w := .int (pnum ws rn : Int)) (by unfold pnum; rw [Int.natCast_ediv])) (ea_cons (ev_is (ev_op (ev_is (ev_len (ev_var rfl) (sq_of (e04 _ _ hN))) (w := .int (rn.length : Int)) (by rw [natV_len])) (ev_var rfl) (rv_I (dg _))) (w := .int (pdiv ws rn : Int)) (by unfold pdiv; rw [Int.natCast_ediv])) ea_nil)) (by show 2 ≤ 100000; decide)) fun p2 H5 hp2 e5 h5 => ?_
      exact q p2 H5 (fresh_back e04 hp2) (e04.trans e5) h5
/-- a question to an instance out of which an exception comes -/
theorem s_methX {C : Addr} {m : Str} {sp : Sp} {vs : List V} {W : L2.WX} {ta : TE} {t : TA} {D : Ends} {σ : L2.St} {H : Hp} {p dx : Addr} {fs : List (Str × V)} (ha : Ev ta σ H (.ref p)) (hp : H p = some (.ins C dx fs)) (hm : fs.lookup m = none) (h : EvA t σ H vs) (hs : ∀ H1, Ex H H1 → sp (.ref p :: vs) H1 (fun _ H' => D.nx σ H') (WE W σ)) : tDrop (tMethS C m sp (WE W) ta t) D σ H :=
  ha H (Ex.refl H) _ fun H1 e1 => ⟨p, dx, fs, rfl, e1 _ _ hp, hm, h H1 e1 _ fun H2 e2 => hs H2 (e1.trans e2)⟩
/-! ### mean, refused or not -/
theorem okNoMeeting_law_words (T : Txt K mg) : FnE P w K mg base 1 T.a_law_words T.d_law_words ["_law_e"] (IsExc T.a_NoMeeting) (sp_law_words ["meeting"]) := ok_law_words T T.X_NoMeeting T.kit_NoMeeting (by decide) (by decide +kernel)
theorem okNoRing_law_words (T : Txt K mg) : FnE P w K mg base 1 T.a_law_words T.d_law_words ["_law_e"] (IsExc T.a_NoRing) (sp_law_words ["ring"]) := ok_law_words T T.X_NoRing T.kit_NoRing (by decide) (by decide +kernel)
theorem fn_cx {P : Program} {w : World} {K : PySem.W.Frag} {mg : Str → Option Value} {base : Heap} {CX : CXT} {k : Nat} {f : Addr} {fd : FuncData} {ps : List Str} {sp : Sp} (F : FnOk P w K mg base CX0 k f fd ps sp) : FnOk P w K mg base CX k f fd ps sp :=
  ⟨F.len, fun A out s H ar us vs Q E hr e0 hb r h => codeAny_mono (F.run A out s H ar us vs Q E hr e0 hb r h) fun rs s' hq => match rs, hq with
    | .error _, z => False.elim z
    | .ok (.ret _), z => z
    | .ok .next, z => z
    | .ok .brk, z => z
    | .ok .cont, z => z⟩
theorem fn_or {P : Program} {w : World} {K : PySem.W.Frag} {mg : Str → Option Value} {base : Heap} {CX : CXT} {k : Nat} {f : Addr} {fd : FuncData} {ps : List Str} {sp sq : Sp} (F : FnOk P w K mg base CX k f fd ps sp) (G : FnOk P w K mg base CX k f fd ps sq) : FnOk P w K mg base CX k f fd ps (fun vs H Q E => sp vs H Q E ∨ sq vs H Q E) :=
  ⟨fun vs H Q E h => h.elim (F.len vs H Q E) (G.len vs H Q E), fun A out s H ar us vs Q E hr e0 hb r h => h.elim (F.run A out s H ar us vs Q E hr e0 hb r) (G.run A out s H ar us vs Q E hr e0 hb r)⟩
def spx_Web_need_meeting (C D : Addr) : Sp := fun vs H Q E => ∃ (p dx : Addr) (fs : List (Str × V)) (n : Nat) (m : Int), vs = [.ref p, .int m] ∧ H p = some (.ins C dx fs) ∧ fs.lookup ("many" : Str) = some (.int (n : Int)) ∧ (¬ BadM n m → RetV .non H Q) ∧ (BadM n m → ∀ H1, Ex H H1 → E (.ref D) none H1)
theorem okx_Web_need_meeting (T : Txt K mg) : FnOk P w K mg base (L2N.CX P w) 1 T.a_Web_need_meeting T.d_Web_need_meeting ["self", "meeting"] (spx_Web_need_meeting T.a_Web T.a_NoMeeting) := by
  refine okX T.F_Web_need_meeting sc_Web_need_meeting (fun vs H Q E h => ?_) (fun cdv A outer s H vs Q E HR TK PO h => ?_)
  · obtain ⟨p, dx, fs, n, m, rfl, _⟩ := h
    rfl
  · obtain ⟨p, dx, fs, n, m, rfl, hp, hf, q0, q1⟩ := h
    refine ⟨_, (pss_one (ps_if (PW.pt (pw_or (pt_cmpR op_lt (pv 1) pe_int (nomark _)) (pw_or1 (pt_cmpR op_ge (pv 1) (pe_fld (pv 0) rfl) (nomark _)))))
  (pss_one (L2N.ps_raise rfl TK (L2N.pmk_own PySem.F.excBase_ValueError T.X_NoMeeting.x T.g_NoMeeting T.X_NoMeeting.k (raises_own T.X_NoMeeting.b T.X_NoMeeting.t) (by rfl)))) pss_nil)), ?_⟩
    refine s_when (b := decide (m < 0) || decide ((n : Int) ≤ m)) (et_or (a := decide (m < 0)) (et_test (ev_op (ev_var rfl) ev_c rv_I0)) fun _ => et_test (ev_op (ev_var rfl) (ev_fld (ev_var rfl) hp T.cl_Web T.na_many hf) rv_I0)) (fun hb H1 e1 => q1 (by simpa [BadM] using hb) H1 e1) (fun hb H1 e1 => q0 (by simp only [Bool.or_eq_false_iff, decide_eq_false_iff_not] at hb; unfold BadM; omega) H1 e1)
def spr_mean (C Dm Dr : Addr) : Sp := fun vs H _ E => ∃ (p a : Addr) (n : Nat) (ws : List Way) (r : List Int), vs = [.ref p, .ref a] ∧ WebAt C H p n ws ∧ WebOk n ws ∧ H a = some (.lst (intV r)) ∧ r.length ≤ 40 ∧ ((outOf n ws r = .meeting ∧ ∀ H1, Ex H H1 → E (.ref Dm) none H1) ∨ (outOf n ws r = .ring ∧ ∀ H1, Ex H H1 → E (.ref Dr) none H1))
theorem okr_mean (T : Txt K mg) : FnOk P w K mg base (L2N.CX P w) 3 T.a_mean T.d_mean ["web", "ring"] (spr_mean T.a_Web T.a_NoMeeting T.a_NoRing) := by
  refine okX T.F_mean sc_mean (fun vs H Q E h => ?_) (fun cdv A outer s H vs Q E HR TK PO h => ?_)
  · obtain ⟨p, a, n, ws, r, rfl, _⟩ := h
    rfl
  · obtain ⟨p, a, n, ws, r, rfl, hW, hw, ha, hrl, hq⟩ := h
    have hW0 := hW
    obtain ⟨dx, lw, li, vw, vi, h1, _⟩ := hW0
    have hn12 := hw.n12
    have ha' : H a = some (.lst (r.map V.int)) := ha
    refine ⟨_, (pss_cons (ps_for PO rfl (pi_list (pv 1)) (pg_name (i := 2) sc_mean.nd rfl (by first | exact Or.inl rfl | exact Or.inr rfl))
  (pss_one (ps_expr (pe_methS (pv 0) T.cl_Web T.m_Web_need_meeting (okx_Web_need_meeting T) (HR.mono (by decide)) T.b_Web_need_meeting (fun σ => L2N.passAt TK σ) (pa_cons (pv 2) pa_nil)))))
  (pss_cons (ps_if (PW.pt (pw_or (pt_cmpR (op_eqD HR.units) (pv 1) (pe_lst pa_nil) (nomark _)) (pw_or1 (pt_cmpR op_lt (pe_lenSet rfl (by rfl) T.n_len (by rfl) T.n_set (pv 1)) (pe_callB call_len_seq (by rfl) T.n_len boot_len (pa_cons (pv 1) pa_nil)) (nomark _)))))
  (pss_one (L2N.ps_raise rfl TK (L2N.pmk_own PySem.F.excBase_ValueError T.X_NoRing.x T.g_NoRing T.X_NoRing.k (raises_own T.X_NoRing.b T.X_NoRing.t) (by rfl)))) pss_nil)
  (pss_cons (ps_set (i := 3) sc_mean.nd rfl (by first | exact Or.inl rfl | exact Or.inr rfl) pe_int)
  (pss_cons (ps_for PO rfl (pi_range1 (by rfl) T.n_range (pa_cons (pe_callB call_len_seq (by rfl) T.n_len boot_len (pa_cons (pv 1) pa_nil)) pa_nil)) (pg_name (i := 4) sc_mean.nd rfl (by first | exact Or.inl rfl | exact Or.inr rfl))
  (pss_cons (ps_set (i := 5) sc_mean.nd rfl (by first | exact Or.inl rfl | exact Or.inr rfl) (pe_meth (pv 0) T.cl_Web T.m_Web_delay (ok_Web_delay T) (HR.mono (by decide)) T.b_Web_delay .nil pass0 (pa_cons (pe_ix ix_list (pv 1) (pe_op op_sub (pv 4) pe_int) (fun _ _ => rfl)) (pa_cons (pe_ix ix_list (pv 1) (pv 4) (fun _ _ => rfl)) pa_nil))))
  (pss_cons (ps_if (pt_cmpR op_isN1 (pv 5) pe_non (nomark _))
  (pss_one (L2N.ps_raise rfl TK (L2N.pmk_own PySem.F.excBase_ValueError T.X_NoRing.x T.g_NoRing T.X_NoRing.k (raises_own T.X_NoRing.b T.X_NoRing.t) (by rfl)))) pss_nil)
  (pss_one (ps_set (i := 3) sc_mean.nd rfl (by first | exact Or.inl rfl | exact Or.inr rfl) (pe_op op_add (pv 3) (pv 5)))))))
  (pss_one (ps_ret (pe_call (ok_lowest T) (HR.mono (by decide)) (by rfl) T.g_lowest T.F_lowest.kp T.b_lowest .nil pass0 (pa_cons (pv 3) (pa_cons (pe_callB call_len_seq (by rfl) T.n_len boot_len (pa_cons (pv 1) pa_nil)) pa_nil))))))))), ?_⟩
    refine q_forL (a := a) (xs := intV r) (ev_var rfl) (sq_of ha) (fun i σ' H' => ∃ r2 : Option V, σ' = [some (.ref p), some (.ref a), r2, none, none, none] ∧ (∀ k, k < i → ¬ BadM n (r.getD k 0)) ∧ Ex H H') (fun H1 e1 => ⟨none, rfl, fun k hk => by omega, e1⟩) (fun i σ' H' _ ⟨_, _, _, e⟩ => sq_of (e _ _ ha)) ?_ ?_
    · rintro i x σ' H' hx ⟨r2, rfl, hall, e⟩
      have hi := (List.getElem?_eq_some_iff.mp hx).1
      rw [intV_len] at hi
      rw [intV_at hi] at hx
      obtain rfl := Option.some.inj hx
      have hmem : r.getD i 0 ∈ r := by
        rw [List.getD_eq_getElem?_getD, List.getElem?_eq_getElem hi]
        exact List.getElem_mem _
      refine s_methX (ev_var rfl) (e _ _ h1) (nm_look n lw li) (ea_cons (ev_var rfl) ea_nil) fun H2 e2 => ⟨p, dx, _, n, _, rfl, (e.trans e2) _ _ h1, webF_many n lw li, fun z H3 e3 => ⟨_, rfl, fun k hk => ?_, (e.trans e2).trans e3⟩, fun z H3 e3 => ?_⟩
      · by_cases hk2 : k < i
        · exact hall k hk2
        · rw [show k = i by omega]
          exact z
      · rcases hq with ⟨_, q⟩ | ⟨ho, _⟩
        · exact q H3 ((e.trans e2).trans e3)
        · rw [out_meeting ⟨_, hmem, z⟩] at ho
          cases ho
    rintro σ' H1 ⟨r2, rfl, hall, e1⟩
    rw [intV_len] at hall
    have hgood : ∀ x ∈ r, ¬ BadM n x := fun x hx => by
      obtain ⟨k, hk⟩ := List.mem_iff_getElem?.mp hx
      have := hall k (List.getElem?_eq_some_iff.mp hk).1
      rw [getD_of hk] at this
      exact this
    have hr : outOf n ws r = .ring ∧ ∀ H1, Ex H H1 → E (.ref T.a_NoRing) none H1 := by
      rcases hq with ⟨ho, _⟩ | h
      · exfalso
        unfold outOf at ho
        rw [if_neg fun ⟨x, h4, h5⟩ => hgood x h4 h5] at ho
        split at ho <;> cases ho
      · exact h
    obtain ⟨ho, q⟩ := hr
    have kle : kinds r ≤ r.length := PyProof.Rows.firstMet_length_le _ _
    have tst : EvT (tOr (tTest (tOp (rEqD K) (tVar 1) (tLst tNil))) (tTest (tOp (rI0 fun i j => V.bl (decide (i < j))) (tLenSet K (tVar 1)) (tCB (rLenS K) (tCons (tVar 1) tNil))))) [some (.ref p), some (.ref a), r2, none, none, none] H1 (decide (r = []) || decide ((kinds r : Int) < (r.length : Int))) :=
      et_or (a := decide (r = [])) (et_test (ev_eqNil (ev_var rfl) (e1 _ _ ha'))) fun _ => et_test (ev_op (ev_lenSet (es_of (ev_var rfl) (sq_of (e1 _ _ ha'))) (by omega)) (ev_is (ev_len (ev_var rfl) (sq_of (e1 _ _ ha))) (by rw [intV_len])) rv_I0)
    by_cases hnd : r = [] ∨ ¬ r.Nodup
    · refine q_when (b := true) (et_is tst ?_) (fun _ H2 e2 => q H2 (e1.trans e2)) (fun z => by cases z)
      rcases hnd with z | z
      · rw [decide_eq_true z]
        rfl
      · have : kinds r < r.length := Nat.lt_of_not_le fun y => z (kinds_all y)
        rw [decide_eq_true (show (kinds r : Int) < (r.length : Int) by omega), Bool.or_true]
    have hr0 : r ≠ [] := fun z => hnd (.inl z)
    have hrn : r.Nodup := Classical.byContradiction fun z => hnd (.inr z)
    refine q_when (b := false) (et_is tst (by rw [decide_eq_false hr0, kinds_nodup hrn]; simp)) (fun z => by cases z) fun _ H2 e2 => ?_
    have e02 := e1.trans e2
    have hnoway : ¬ isWay ws (natsOf r) := fun z => by
      rw [out_frac hgood hr0 hrn z] at ho
      cases ho
    have hN : H a = some (.lst (natV (natsOf r))) := by rw [ha, nats_V hgood]
    have hlt := nats_lt hgood
    generalize natsOf r = rn at hN hnoway hlt
    have rpos : 0 < rn.length := by
      rcases Nat.eq_zero_or_pos rn.length with z | z
      · rw [List.length_eq_zero_iff.mp z] at hnoway
        exact absurd (fun e he => by simp [fcyc] at he) hnoway
      · exact z
    have rle : rn.length ≤ 40 := by
      have := congrArg (Option.map fun o => match o with | HO.lst xs => xs.length | _ => 0) (hN.symm.trans ha)
      simp only [Option.map_some, Option.some.injEq] at this
      rw [natV_len, intV_len] at this
      omega
    have hnocyc : ¬ ∀ e ∈ cyc rn, e ∈ edges ws := fun z => hnoway fun e he => z e ((fcyc_cyc rn).mem_iff.mp he)
    refine q_asg ev_c fun H3 e3 => ?_
    have e03 := e02.trans e3
    refine q_forR1 (n := (rn.length : Int)) (ea_cons (ev_is (ev_len (ev_var rfl) (sq_of (e03 _ _ hN))) (by rw [natV_len])) ea_nil) ⟨by omega, by omega⟩ (fun i σ' H' => ∃ (r2 r4 r5 : Option V) (z : Int), σ' = [some (.ref p), some (.ref a), r2, some (.int z), r4, r5] ∧ (∀ e ∈ (cyc rn).take i, e ∈ edges ws) ∧ Ex H H')
      (fun H4 e4 => ⟨_, _, _, _, rfl, by simp, e03.trans e4⟩) ?_ ?_
    · rintro i σ' H' hi ⟨r2, r4, r5, z, rfl, hall, e⟩
      have hi2 : i < rn.length := by omega
      have hc := pairsL_get (rn.getLastD 0) rn i hi2
      have hget : ∀ k, k < rn.length → rn[k]? = some (rn.getD k 0) := fun k hk => by
        rw [List.getD_eq_getElem?_getD, List.getElem?_eq_getElem hk]
        rfl
      have lt_ : ∀ k, k < rn.length → rn.getD k 0 < n := fun k hk => hlt _ (List.mem_of_getElem? (hget k hk))
      have hlast : rn[rn.length - 1]? = some (rn.getLastD 0) := by
        rw [List.getLastD_eq_getLast?, List.getLast?_eq_getElem?, List.getElem?_eq_getElem (by omega)]
        rfl
      generalize hA : (if i = 0 then rn.getLastD 0 else rn.getD (i - 1) 0) = A0 at hc
      have hA0 : A0 < n := by
        rw [← hA]
        split
        · exact hlt _ (List.mem_of_getElem? hlast)
        · exact lt_ _ (by omega)
      have hprev : Ev (tOp (rIxL K) (tVar 1) (tOp (rI0 fun i j => V.int (i - j)) (tVar 4) (tC (.int 1)))) [some (.ref p), some (.ref a), r2, some (.int z), some (.int (i : Int)), r5] H' (.int (A0 : Int)) := by
        refine ev_op (ev_var rfl) (ev_op (ev_var rfl) ev_c rv_I0) (rv_ixL (sq_of (e _ _ hN)) ?_)
        by_cases h0 : i = 0
        · subst h0
          rw [if_pos rfl] at hA
          rw [← hA]
          show atI (natV rn) (-1) = _
          refine at_last (natV_at (i := (natV rn).length - 1) ?_)
          rw [natV_len]
          exact hlast
        · rw [if_neg h0] at hA
          rw [← hA]
          exact at_nat (natV_at (hget (i - 1) (by omega))) (by omega)
      refine q_asg (ev_delay (hW.ex e) hw.len (ev_var rfl) (ea_cons hprev (ea_cons (ev_op (ev_var rfl) (ev_var rfl) (rv_ixL (sq_of (e _ _ hN)) (at_nat (natV_at (hget i hi2))))) ea_nil)) hA0 (lt_ i hi2)) fun H4 e4 => ?_
      by_cases hmem : (A0, rn.getD i 0) ∈ edges ws
      · have ed : dly ws A0 (rn.getD i 0) = .int (mxI (dels ws A0 (rn.getD i 0))) := if_neg (dels_ne.mpr hmem)
        rw [ed]
        refine q_when (b := false) (et_test (ev_op (ev_var rfl) ev_c rv_isN_int)) (fun z => by cases z) fun _ H5 e5 => ?_
        refine s_asg (ev_op (ev_var rfl) (ev_var rfl) rv_I0) fun H6 e6 => ⟨_, _, _, _, rfl, fun x hx => ?_, ((e.trans e4).trans e5).trans e6⟩
        rw [List.take_add_one] at hx
        rcases List.mem_append.mp hx with y | y
        · exact hall x y
        · unfold cyc at y
          rw [hc] at y
          rw [List.mem_singleton.mp y]
          exact hmem
      · have ed : dly ws A0 (rn.getD i 0) = .non := if_pos (Classical.byContradiction fun y => hmem (dels_ne.mp y))
        rw [ed]
        exact q_when (b := true) (et_is (et_test (ev_op (ev_var rfl) ev_c rv_isN)) (by simp)) (fun _ H5 e5 => q H5 ((e.trans e4).trans e5)) (fun z => by cases z)
    · rintro σ' H' ⟨r2, r4, r5, z, rfl, hall, e⟩
      exact absurd (fun x hx => hall x (by
        rw [List.take_of_length_le (by rw [cyc_len]; omega)]
        exact hx)) hnocyc
def spx_mean (C Dm Dr : Addr) : Sp := fun vs H Q E => sp_mean C vs H Q E ∨ spr_mean C Dm Dr vs H Q E
theorem okx_mean (T : Txt K mg) : FnOk P w K mg base (L2N.CX P w) 3 T.a_mean T.d_mean ["web", "ring"] (spx_mean T.a_Web T.a_NoMeeting T.a_NoRing) := fn_or (fn_cx (ok_mean T)) (okr_mean T)
/-! ### what is told of a list -/
def rJoinK (K : PySem.W.Frag) : V → List V → Hp → VK → Prop := fun x xs H Q => ∃ a p, ∃ ys : List Str, x = .str a ∧ xs = [.ref p] ∧ (SqL K H p (ys.map V.str) ∨ SqT K H p (ys.map V.str)) ∧ (ys.map (·.length)).sum + ys.length * a.length ≤ 16777216 ∧ Q (.str (PySem.Txt.join a ys)) H
theorem pe_joinK {X : Cx} {K : PySem.W.Frag} {o e : Expr} {to te : TE} {apos pos : Pos} (hK : X.K = K) (ho : PE X o to) (he : PE X e te) (hs : starEach [e] X.env = [(false, eval e X.env)] := by rfl) (hbase : attributeBase o "join" X.env (eval o X.env) = eval o X.env := by rfl) (hline : (apos.endLine == pos.line) = true := by rfl) :
    PE X (.Call (.Attribute o "join" apos) [e] [] pos) (tM1 (rJoinK K) to te) := by
  subst hK
  exact pe_join ho he hs hbase hline
theorem ev_joinL {K : PySem.W.Frag} {σ : L2.St} {H : Hp} {ta te : TE} {a : Str} {ys : List Str} (ha : Ev ta σ H (.str a)) (he : EvL te σ H (ys.map V.str)) (hz : (ys.map (·.length)).sum + ys.length * a.length ≤ 16777216) : Ev (tM1 (rJoinK K) ta te) σ H (.str (PySem.Txt.join a ys)) := fun H1 e Q q =>
  ha H1 e _ fun H2 e2 => ⟨⟨a, rfl⟩, he H2 (e.trans e2) _ fun p H3 hp e3 h3 => ⟨a, p, ys, rfl, rfl, .inl (sq_of h3), hz, q H3 (e2.trans e3)⟩⟩
theorem s_retS {σ : L2.St} {H : Hp} {sp : Sp} {vs : List V} {E : L2.St → XK} {t : TA} {D : Ends} (h : EvA t σ H vs) (hs : ∀ H1, Ex H H1 → sp vs H1 D.rt (E σ)) : tRet (tCallS sp E t) D σ H := h H (Ex.refl H) _ fun H1 e1 => hs H1 e1
def sp_law_told (C : Addr) : Sp := fun vs H Q _ => ∃ (p a : Addr) (n : Nat) (ws : List Way) (r : List Int), vs = [.ref p, .ref a] ∧ WebAt C H p n ws ∧ WebOk n ws ∧ H a = some (.lst (intV r)) ∧ r.length ≤ 40 ∧ RetOut (outOf n ws r) H Q
abbrev s_law_told : Stmt := (top 38)
abbrev N_law_told : List Str := ["_law_web", "_law_ring", "_law_e"]
theorem sc_law_told : FnScope N_law_told ["_law_web", "_law_ring"] (defScope s_law_told) := ⟨rfl, rfl, rfl, by decide +kernel, rfl, by decide +kernel, by decide +kernel⟩

theorem ok_law_told (T : Txt K mg) : FnOk P w K mg base CX0 4 T.a_law_told T.d_law_told ["_law_web", "_law_ring"] (sp_law_told T.a_Web) := by
  refine okN T.F_law_told sc_law_told (fun vs H Q E h => ?_) (fun cdv A outer s H vs Q E HR h => ?_)
  · obtain ⟨p, a, n, ws, r, rfl, _⟩ := h
    rfl
  · obtain ⟨p, a, n, ws, r, rfl, hW, hw, ha, hrl, q⟩ := h
    refine ⟨_, (pss_one (L2N.ps_try_as (i := 2) rfl rfl sc_law_told.nd rfl rfl ⟨rfl, by decide, .inl T.g_PaceError⟩ tk0 (fun W pn xe TK PO =>
  (pss_one (ps_ret (pe_callS (okx_mean T) (HR.mono (by decide)) (by rfl) T.g_mean T.F_mean.kp T.b_mean (fun σ => L2N.passAt TK σ) (pa_cons (pv 0) (pa_cons (pv 1) pa_nil))))))
  (fun a oe cls d pn hz hf => (pss_or (pss_known (D := T.a_NoMeeting) hz fun hz => (pss_one (ps_ret (pe_joinK (K := K) rfl pe_str (pe_callE (a := a) (oe := oe) (E := fun _ _ _ _ => False) (okNoMeeting_law_words T) (isExc_of hz hf) (hot1_of hz hf) List.mem_cons_self (roomH_mark (L2H.roomH_of (HR.mono (by decide)))) (by rfl) T.g_law_words T.F_law_words.kp T.b_law_words (pa_cons (pv 2) pa_nil)))))) (pss_known (D := T.a_NoRing) hz fun hz => (pss_one (ps_ret (pe_joinK (K := K) rfl pe_str (pe_callE (a := a) (oe := oe) (E := fun _ _ _ _ => False) (okNoRing_law_words T) (isExc_of hz hf) (hot1_of hz hf) List.mem_cons_self (roomH_mark (L2H.roomH_of (HR.mono (by decide)))) (by rfl) T.g_law_words T.F_law_words.kp T.b_law_words (pa_cons (pv 2) pa_nil)))))))))), ?_⟩
    have join1 : ∀ (wd : Str) (D : Addr) (σ : L2.St) (H1 : Hp) (b : Addr) (E : L2.St → XK), σ[2]? = some (some (.ref b)) → wd.length ≤ 100 → PySem.Txt.join " " [wd] = wd → Ev (tM1 (rJoinK K) (tC (.str " ")) (tCallS (sp_law_words [wd] b) E (tCons (tVar 2) tNil))) σ H1 (.str wd) := fun wd D σ H1 b E hb hl hj =>
      ev_is (ev_joinL (ys := [wd]) ev_c (el_callS (ea_cons (ev_var hb) ea_nil) fun H3 e3 Q E k => ⟨rfl, k⟩) (by show wd.length + 0 + 1 * (1 : Nat) ≤ 16777216; omega)) (congrArg V.str hj)
    cases ho : outOf n ws r with
    | meeting =>
      rw [ho] at q
      have q : RetV (.str "meeting") H Q := q
      refine s_retS (vs := [.ref p, .ref a]) (ea_cons (ev_var rfl) (ea_cons (ev_var rfl) ea_nil)) fun H1 e1 => .inr ⟨p, a, n, ws, r, rfl, hW.ex e1, hw, e1 _ _ ha, hrl, .inl ⟨ho, fun H2 e2 => ⟨true, T.X_NoMeeting.m, fun _ b hb => .inl ⟨⟨rfl, rfl⟩, ?_⟩, fun z => nomatch z⟩⟩⟩
      exact s_ret (join1 "meeting" T.a_NoMeeting _ _ _ _ rfl (by decide +kernel) (by decide +kernel)) fun H3 e3 => q H3 ((e1.trans e2).trans e3)
    | ring =>
      rw [ho] at q
      have q : RetV (.str "ring") H Q := q
      refine s_retS (vs := [.ref p, .ref a]) (ea_cons (ev_var rfl) (ea_cons (ev_var rfl) ea_nil)) fun H1 e1 => .inr ⟨p, a, n, ws, r, rfl, hW.ex e1, hw, e1 _ _ ha, hrl, .inr ⟨ho, fun H2 e2 => ⟨true, T.X_NoRing.m, fun _ b hb => .inr ⟨⟨rfl, rfl⟩, ?_⟩, fun z => nomatch z⟩⟩⟩
      exact s_ret (join1 "ring" T.a_NoRing _ _ _ _ rfl (by decide +kernel) (by decide +kernel)) fun H3 e3 => q H3 ((e1.trans e2).trans e3)
    | frac x y =>
      rw [ho] at q
      have q : RetU [.int (x : Int), .int (y : Int)] H Q := q
      have hgood : ∀ x ∈ r, ¬ BadM n x := fun x h1 h2 => by
        rw [out_meeting ⟨x, h1, h2⟩] at ho
        cases ho
      have hring : ¬ (r = [] ∨ ¬ r.Nodup ∨ ¬ isWay ws (natsOf r)) := fun z => by
        rw [out_ring hgood z] at ho
        cases ho
      have h0 : r ≠ [] := fun z => hring (.inl z)
      have h1 : r.Nodup := Classical.byContradiction fun z => hring (.inr (.inl z))
      have h2 : isWay ws (natsOf r) := Classical.byContradiction fun z => hring (.inr (.inr z))
      rw [out_frac hgood h0 h1 h2] at ho
      injection ho with hx hy
      subst hx hy
      refine s_retS (vs := [.ref p, .ref a]) (ea_cons (ev_var rfl) (ea_cons (ev_var rfl) ea_nil)) fun H1 e1 => .inl ⟨p, a, n, ws, natsOf r, rfl, hW.ex e1, hw, by rw [← nats_V hgood]; exact e1 _ _ ha, nats_ring hgood h0 h1 h2, fun t H2 ht e2 h2 => q t H2 (fresh_back e1 ht) (e1.trans e2) h2⟩
/-! ### one out of three, of four -/
theorem at3 {x : Int} (a b c : V) : ∃ v, (v = a ∨ v = b ∨ v = c) ∧ atI [a, b, c] (x % 3) = some v := by
  have h0 := Int.emod_nonneg x (by decide : (3 : Int) ≠ 0)
  have h2 := Int.emod_lt_of_pos x (by decide : (0 : Int) < 3)
  by_cases e0 : x % 3 = 0
  · rw [e0]
    exact ⟨a, .inl rfl, rfl⟩
  · by_cases e1 : x % 3 = 1
    · rw [e1]
      exact ⟨b, .inr (.inl rfl), rfl⟩
    · rw [show x % 3 = 2 by omega]
      exact ⟨c, .inr (.inr rfl), rfl⟩
theorem at4 {x : Int} (a b c d : V) : ∃ v, (v = a ∨ v = b ∨ v = c ∨ v = d) ∧ atI [a, b, c, d] (x % 4) = some v := by
  have h0 := Int.emod_nonneg x (by decide : (4 : Int) ≠ 0)
  have h2 := Int.emod_lt_of_pos x (by decide : (0 : Int) < 4)
  by_cases e0 : x % 4 = 0
  · rw [e0]
    exact ⟨a, .inl rfl, rfl⟩
  · by_cases e1 : x % 4 = 1
    · rw [e1]
      exact ⟨b, .inr (.inl rfl), rfl⟩
    · by_cases e2 : x % 4 = 2
      · rw [e2]
        exact ⟨c, .inr (.inr (.inl rfl)), rfl⟩
      · rw [show x % 4 = 3 by omega]
        exact ⟨d, .inr (.inr (.inr rfl)), rfl⟩
/-! ### the law's list -/
def sp_law_list (K : PySem.W.Frag) : Sp := fun vs H Q _ => ∃ (a b : Addr) (ns : List Int) (n : Nat) (ws : List Way) (vw : List V), vs = [.ref a, .ref b, .int (n : Int)] ∧ SqL K H a (ns.map V.int) ∧ H b = some (.lst vw) ∧ Tups H vw (ws.map wayV) ∧ WebOk n ws ∧ ∀ r : List Int, r.length ≤ 20 → RetL (intV r) H Q
theorem natV_intV (rr : List Nat) : natV rr = intV (rr.map fun (m : Nat) => (m : Int)) := by
  rw [natV_int]
  rfl
abbrev s_law_list : Stmt := (top 34)
abbrev N_law_list : List Str := ["_law_script", "_law_ways_here", "_law_many_here", "_law_ring", "_law_here", "_law_way", "_law_k", "_law_goals", "_law_at", "_law_far", "_law_one"]
theorem sc_law_list : FnScope N_law_list ["_law_script", "_law_ways_here", "_law_many_here"] (defScope s_law_list) := ⟨rfl, rfl, rfl, by decide +kernel, rfl, by decide +kernel, by decide +kernel⟩

theorem ok_law_list (T : Txt K mg) : FnOk P w K mg base CX0 2 T.a_law_list T.d_law_list ["_law_script", "_law_ways_here", "_law_many_here"] (sp_law_list K) := by
  refine okN T.F_law_list sc_law_list (fun vs H Q E h => ?_) (fun cdv A outer s H vs Q E HR h => ?_)
  · obtain ⟨a, b, ns, n, ws, vw, rfl, _⟩ := h
    rfl
  · obtain ⟨a, b, ns, n, ws, vw, rfl, hS, hb, hT, hw, q⟩ := h
    have n1 := hw.n1
    have n12 := hw.n12
    have hwl := hw.len
    have hlen : vw.length = ws.length := hT.1.trans (List.length_map _)
    have ccell : ∀ (σ : L2.St) (H1 : Hp) (t : TE) (k : Nat), Ex H H1 → σ[0]? = some (some (.ref a)) → Ev t σ H1 (.int (k : Int)) → Ev (tCall (sp_law_cell_at K) [] E0 (tCons (tVar 0) (tCons t tNil))) σ H1 (.int (cell ns (k : Int))) := fun σ H1 t k e hσ ht =>
      ev_callV (ea_cons (ev_var hσ) (ea_cons ht ea_nil)) fun H2 e2 Q E q => ⟨a, ns, k, rfl, ex_l (e.trans e2) hS, by omega, q⟩
    have p3 : (0 : Int) < 3 := by decide
    have p4 : (0 : Int) < 4 := by decide
    have p5 : (0 : Int) < 5 := by decide
    have p7 : (0 : Int) < 7 := by decide
    have pn : (0 : Int) < (n : Int) := by omega
    refine ⟨_, (pss_cons (ps_set (i := 3) sc_law_list.nd rfl (by first | exact Or.inl rfl | exact Or.inr rfl) (pe_lst pa_nil))
  (pss_cons (ps_set (i := 4) sc_law_list.nd rfl (by first | exact Or.inl rfl | exact Or.inr rfl) (pe_op op_mod (pe_call (ok_law_cell_at T) (HR.mono (by decide)) (by rfl) T.g_law_cell_at T.F_law_cell_at.kp T.b_law_cell_at .nil pass0 (pa_cons (pv 0) (pa_cons pe_int pa_nil))) (pv 2)))
  (pss_cons (ps_set (i := 5) sc_law_list.nd rfl (by first | exact Or.inl rfl | exact Or.inr rfl) (pe_op op_mod (pe_call (ok_law_cell_at T) (HR.mono (by decide)) (by rfl) T.g_law_cell_at T.F_law_cell_at.kp T.b_law_cell_at .nil pass0 (pa_cons (pv 0) (pa_cons pe_int pa_nil))) pe_int))
  (Evl.pss_cut (ps_if (pt_cmpR op_lt (pv 5) pe_int (nomark _))
  (pss_cons (ps_for PassesOwn.never rfl (pi_range1 (by rfl) T.n_range (pa_cons (pe_op op_add (pv 2) pe_int) pa_nil)) (pg_name (i := 6) sc_law_list.nd rfl (by first | exact Or.inl rfl | exact Or.inr rfl))
  (pss_one (ps_if (pt_cmpR op_notIn_seq (pv 4) (pv 3) rfl)
  (pss_cons (ps_expr (pe_bm PySem.F.plainAttrs_list PySem.F.slot_list_append PySem.F.type_list_append mt_append (pv 3) (pa_cons (pv 4) pa_nil)))
  (pss_cons (ps_setLc (i := 7) (g := (gName 10)) (tt := (tTest (tOp rEq (tOp (rIxT K) (tVar 10) (tC (.int 0))) (tVar 4)))) (te := (tOp (rIxT K) (tVar 10) (tC (.int 1)))) (own := [("_law_one", 10)]) rfl sc_law_list.nd rfl rfl (sw_true rfl rfl rfl (by decide +kernel)) (pi_list (pv 1)) (blkOk_by (own := [("_law_one", 10)]) (N := N_law_list) (sc := defScope s_law_list) (by decide +kernel)) (fun _ _ _ _ _ => (pg_name (i := 10) sc_law_list.nd rfl (by first | exact Or.inl rfl | exact Or.inr rfl))) (fun _ _ _ _ _ => (pts_one (pt_cmpR op_eq (pe_ix ix_tup (pv 10) pe_int (fun _ _ => rfl)) (pv 4) (nomark _)))) (fun _ _ _ _ _ => (pe_ix ix_tup (pv 10) pe_int (fun _ _ => rfl))))
  (pss_one (ps_set (i := 4) sc_law_list.nd rfl (by first | exact Or.inl rfl | exact Or.inr rfl) (pe_ix ix_list (pv 7) (pe_op op_mod (pe_call (ok_law_mixed T) (HR.mono (by decide)) (by rfl) T.g_law_mixed T.F_law_mixed.kp T.b_law_mixed .nil pass0 (pa_cons (pe_call (ok_law_cell_at T) (HR.mono (by decide)) (by rfl) T.g_law_cell_at T.F_law_cell_at.kp T.b_law_cell_at .nil pass0 (pa_cons (pv 0) (pa_cons (pe_op op_add pe_int (pe_op op_mod (pv 6) pe_int)) pa_nil))) (pa_cons (pv 6) pa_nil))) (pe_callB call_len_seq (by rfl) T.n_len boot_len (pa_cons (pv 7) pa_nil))) (fun _ _ => rfl)))))) pss_nil)))
  (pss_one (ps_if (pt_cmpR op_eq (pv 5) pe_int (nomark _))
  (pss_one (ps_set (i := 3) sc_law_list.nd rfl (by first | exact Or.inl rfl | exact Or.inr rfl) (pe_slice sl_list (pv 3) (po_some (pe_bm PySem.F.plainAttrs_list PySem.F.slot_list_index PySem.F.type_list_index mt_index (pv 3) (pa_cons (pv 4) pa_nil))) po_none))) pss_nil))) (pss_one (ps_for PassesOwn.never rfl (pi_range1 (by rfl) T.n_range (pa_cons (pe_op op_mod (pe_call (ok_law_cell_at T) (HR.mono (by decide)) (by rfl) T.g_law_cell_at T.F_law_cell_at.kp T.b_law_cell_at .nil pass0 (pa_cons (pv 0) (pa_cons pe_int pa_nil))) pe_int) pa_nil)) (pg_name (i := 6) sc_law_list.nd rfl (by first | exact Or.inl rfl | exact Or.inr rfl))
  (pss_one (ps_expr (pe_bm PySem.F.plainAttrs_list PySem.F.slot_list_append PySem.F.type_list_append mt_append (pv 3) (pa_cons (pe_op op_mod (pe_call (ok_law_mixed T) (HR.mono (by decide)) (by rfl) T.g_law_mixed T.F_law_mixed.kp T.b_law_mixed .nil pass0 (pa_cons (pe_call (ok_law_cell_at T) (HR.mono (by decide)) (by rfl) T.g_law_cell_at T.F_law_cell_at.kp T.b_law_cell_at .nil pass0 (pa_cons (pv 0) (pa_cons pe_int pa_nil))) (pa_cons (pv 6) pa_nil))) (pv 2)) pa_nil)))))))
  (Evl.pss_cut (ps_if (pt_cmpR op_eq (pe_op op_mod (pe_call (ok_law_cell_at T) (HR.mono (by decide)) (by rfl) T.g_law_cell_at T.F_law_cell_at.kp T.b_law_cell_at .nil pass0 (pa_cons (pv 0) (pa_cons pe_int pa_nil))) pe_int) pe_int (nomark _))
  (pss_cons (ps_set (i := 8) sc_law_list.nd rfl (by first | exact Or.inl rfl | exact Or.inr rfl) (pe_op op_mod (pe_op op_fdiv (pe_call (ok_law_cell_at T) (HR.mono (by decide)) (by rfl) T.g_law_cell_at T.F_law_cell_at.kp T.b_law_cell_at .nil pass0 (pa_cons (pv 0) (pa_cons pe_int pa_nil))) pe_int) (pe_op op_add (pe_callB call_len_seq (by rfl) T.n_len boot_len (pa_cons (pv 3) pa_nil)) pe_int)))
  (pss_cons (ps_set (i := 9) sc_law_list.nd rfl (by first | exact Or.inl rfl | exact Or.inr rfl) (pe_op op_mod (pe_call (ok_law_cell_at T) (HR.mono (by decide)) (by rfl) T.g_law_cell_at T.F_law_cell_at.kp T.b_law_cell_at .nil pass0 (pa_cons (pv 0) (pa_cons pe_int pa_nil))) (pe_op op_pow pe_int pe_int)))
  (pss_one (ps_set (i := 3) sc_law_list.nd rfl (by first | exact Or.inl rfl | exact Or.inr rfl) (pe_op op_cat (pe_op op_cat (pe_slice sl_list (pv 3) po_none (po_some (pv 8))) (pe_lst (pa_cons (pe_ix ix_list (pe_lst (pa_cons (pe_un un_neg pe_int) (pa_cons (pv 2) (pa_cons (pe_op op_add (pv 2) (pv 9)) (pa_cons (pe_op op_sub (pe_un un_neg pe_int) (pv 9)) pa_nil))))) (pe_op op_mod (pe_call (ok_law_cell_at T) (HR.mono (by decide)) (by rfl) T.g_law_cell_at T.F_law_cell_at.kp T.b_law_cell_at .nil pass0 (pa_cons (pv 0) (pa_cons pe_int pa_nil))) pe_int) (fun _ _ => rfl)) pa_nil))) (pe_slice sl_list (pv 3) (po_some (pv 8)) po_none)))))) pss_nil)
  (pss_one (ps_ret (pv 3)))))))), ?_⟩
    refine q_asgL (xs := natV []) (el_lst ea_nil (Nat.zero_le _)) fun l H1 hl e1 h1 => ?_
    obtain ⟨g0, hg0, hge⟩ : ∃ g : Nat, g < n ∧ cell ns ((9 : Nat) : Int) % (n : Int) = (g : Int) := by
      have h1 := Int.emod_nonneg (cell ns ((9 : Nat) : Int)) (by omega : (n : Int) ≠ 0)
      have h2 := Int.emod_lt_of_pos (cell ns ((9 : Nat) : Int)) pn
      exact ⟨(cell ns ((9 : Nat) : Int) % (n : Int)).toNat, by omega, by omega⟩
    refine q_asg (v := .int (g0 : Int)) (ev_is (ev_op (ccell _ _ _ 9 e1 rfl ev_c) (ev_var rfl) (rv_I pn)) (congrArg V.int hge)) fun H2 e2 => ?_
    have e02 := e1.trans e2
    refine q_asg (v := .int (cell ns ((10 : Nat) : Int) % 3)) (ev_op (ccell _ _ _ 10 e02 rfl ev_c) ev_c (rv_I p3)) fun H3 e3 => ?_
    have e03 := e02.trans e3
    have h3l := e3 _ _ (e2 _ _ h1)
    generalize cell ns ((10 : Nat) : Int) % 3 = way
    refine q_cut (M := fun σ' H' => ∃ (l2 : Addr) (rr : List Int) (r4 r6 r7 : Option V), σ' = [some (.ref a), some (.ref b), some (.int (n : Int)), some (.ref l2), r4, some (.int way), r6, r7, none, none, none] ∧ H' l2 = some (.lst (intV rr)) ∧ rr.length ≤ 13 ∧ H l2 = none ∧ Ex H H') ?_ ?_
    · refine s_if (b := decide (way < 2)) (et_test (ev_op (ev_var rfl) ev_c rv_I0)) (fun _ H4 e4 => ?_) (fun _ H4 e4 => ?_)
      · have e04 := e03.trans e4
        refine q_forR1 (n := ((n + 1 : Nat) : Int)) (ea_cons (ev_is (ev_op (ev_var rfl) ev_c rv_I0) rfl) ea_nil) ⟨by omega, by omega⟩ (fun i σ' H' => ∃ (rr : List Nat) (g : Nat) (r6 r7 : Option V), σ' = [some (.ref a), some (.ref b), some (.int (n : Int)), some (.ref l), some (.int (g : Int)), some (.int way), r6, r7, none, none, none] ∧ H' l = some (.lst (natV rr)) ∧ Gone n ws rr g ∧ (rr.length = i ∨ g ∈ rr) ∧ Ex H H')
          (fun H5 e5 => ⟨[], g0, none, none, rfl, (e4.trans e5) _ _ h3l, ⟨List.nodup_nil, by simp, hg0, fun i hi => by simp at hi, fun z => absurd rfl z⟩, .inl rfl, e04.trans e5⟩) ?_ ?_
        · rintro i σ' H' hi ⟨rr, g, r6, r7, rfl, hl', hG, hor, e⟩
          refine s_when (b := !decide (g ∈ rr)) (et_is (et_test (ev_op (ev_var rfl) (ev_var rfl) (rv_niL (sq_of hl') rfl (flat_natV _)))) (by rw [inV_nat])) (fun hb3 H5 e5 => ?_) (fun hb3 H5 e5 => ?_)
          · have hng : g ∉ rr := by simpa using hb3
            have hrl : rr.length ≤ n := nodup_lt hG.nd hG.lt
            refine q_app (l := l) (e5 _ _ hl') (ev_var rfl) (ev_var rfl) (by rw [natV_len]; omega) fun H6 e6 => ?_
            have eX : Ex H (upd H6 l (.lst (natV rr ++ [.int (g : Int)]))) := Ex.mut ((e.trans e5).trans e6) hl
            have lX : upd H6 l (.lst (natV rr ++ [.int (g : Int)])) l = some (.lst (natV (rr ++ [g]))) := by
              rw [upd_same, natV_app]
              rfl
            generalize upd H6 l (.lst (natV rr ++ [.int (g : Int)])) = HX at eX lX
            let gl : List Nat := (ws.filter fun w => decide (w.1 = g)).map fun w => w.2.1
            have glm : ∀ y, y ∈ gl ↔ (g, y) ∈ edges ws := fun y => by
              rw [mem_edges]
              constructor
              · intro hy
                obtain ⟨w, hw2, rfl⟩ := List.mem_map.mp hy
                obtain ⟨h1, h2⟩ := List.mem_filter.mp hw2
                have h2 : w.1 = g := of_decide_eq_true h2
                exact ⟨w.2.2, by rw [← h2]; exact h1⟩
              · rintro ⟨d, hd⟩
                exact List.mem_map.mpr ⟨_, List.mem_filter.mpr ⟨hd, decide_eq_true rfl⟩, rfl⟩
            have glne : gl ≠ [] := by
              obtain ⟨pr, hpr⟩ := List.exists_mem_of_ne_nil _ (hw.turn.inn_ne hG.hlt)
              have h1 := mem_inn.mp hpr
              unfold turn at h1
              obtain ⟨v, hv, e0⟩ := List.mem_map.mp h1
              have h2 : v.1 = g := congrArg (fun z => z.2.1) e0
              intro z
              have : v.2.1 ∈ gl := (glm _).mpr (mem_edges.mpr ⟨v.2.2, by rw [← h2]; exact hv⟩)
              rw [z] at this
              cases this
            refine q_asgL (xs := natV gl) ?_ fun lg H7 hlg e7 h7 => ?_
            · have rr2 := el_lcS (K := K) (σ := [some (.ref a), some (.ref b), some (.int (n : Int)), some (.ref l), some (.int (g : Int)), some (.int way), some (.int (i : Int)), r7, none, none, none]) (H := HX) (xs := vw) (tl := tVar 1) (g := gName 10) (t := tTest (tOp rEq (tOp (rIxT K) (tVar 10) (tC (.int 0))) (tVar 4))) (te := tOp (rIxT K) (tVar 10) (tC (.int 1))) (vs := [10])
                (fun k => [some (.ref a), some (.ref b), some (.int (n : Int)), some (.ref l), some (.int (g : Int)), some (.int way), some (.int (i : Int)), r7, none, none, some (vw.getD k .non)]) (fun k => decide ((ws.getD k (0, 0, 0)).1 = g)) (fun k => .int ((ws.getD k (0, 0, 0)).2.1 : Int))
                (es_of (ev_var rfl) (sq_of (eX _ _ hb))) (by omega) (fun k x H4 e4 hx Q qq => by rw [getD_of hx] at qq; exact qq) (fun k x hx => rfl)
                (fun k x H4 e4 hx => by
                  obtain ⟨q, w, rfl, hw2, _, hq⟩ := wayV_at (hT.ex (eX.trans e4)) hx
                  rw [getD_of hx, getD_of hw2]
                  exact et_is (et_test (ev_op (ev_op (ev_var rfl) ev_c (rv_ixT (st_of hq) rfl)) (ev_var rfl) (rv_eq rfl))) (decide_eq_decide.mpr ⟨fun z => by have := V.int.inj z; omega, fun z => by rw [z]⟩))
                (fun k x H4 e4 hx _ => by
                  obtain ⟨q, w, rfl, hw2, _, hq⟩ := wayV_at (hT.ex (eX.trans e4)) hx
                  rw [getD_of hx, getD_of hw2]
                  exact ev_op (ev_var rfl) ev_c (rv_ixT (st_of hq) rfl))
              have e0 : given vw.length (fun k => decide ((ws.getD k (0, 0, 0)).1 = g)) (fun k => V.int ((ws.getD k (0, 0, 0)).2.1 : Int)) = natV gl := by
                show _ = ((ws.filter fun w => decide (w.1 = g)).map fun w => w.2.1).map _
                rw [← filter_getD ws (0, 0, 0) (fun w => decide (w.1 = g)), List.map_map, List.map_map]
                unfold given
                rw [hlen]
                rfl
              rw [e0] at rr2
              exact rr2
            · have glpos : 0 < gl.length := List.length_pos_iff.mpr glne
              generalize hx : mixN (cell ns ((11 + i % 4 : Nat) : Int)) i = x
              have hxm : x % gl.length < gl.length := Nat.mod_lt _ glpos
              have hgx : gl[x % gl.length]? = some (gl.getD (x % gl.length) 0) := by
                rw [List.getD_eq_getElem?_getD, List.getElem?_eq_getElem hxm]
                rfl
              have hgm := (glm _).mp (List.mem_of_getElem? hgx)
              have hgend := hw.ends _ (dmax_way hgm).1
              have eX5 := eX.trans e7
              refine s_asg (v := .int ((gl.getD (x % gl.length) 0 : Nat) : Int)) (ev_op (ev_var rfl) (ev_op (ev_is (ev_callV (z := .int (mixN (cell ns ((11 + i % 4 : Nat) : Int)) i : Int)) (ea_cons (ccell _ _ _ (11 + i % 4) eX5 rfl (ev_is (ev_op ev_c (ev_op (ev_var rfl) ev_c (rv_I p4)) rv_I0) (by rw [Int.natCast_add, Int.natCast_emod]; rfl))) (ea_cons (ev_var rfl) ea_nil)) fun H2 e2 Q E q => ⟨_, i, rfl, q⟩) (by rw [hx])) (ev_is (ev_len (ev_var rfl) (sq_of h7)) (by rw [natV_len])) (rv_I (by show (0 : Int) < (gl.length : Int); omega))) (rv_ixL (sq_of h7) (at_nat (natV_at hgx) (by rw [Int.natCast_emod])))) fun H8 e8 => ?_
              refine ⟨rr ++ [g], gl.getD (x % gl.length) 0, _, _, rfl, e8 _ _ (e7 _ _ lX), hG.step hng hgend.2 hgm, ?_, eX5.trans e8⟩
              rcases hor with h | h
              · exact .inl (by rw [List.length_append, h]; rfl)
              · exact absurd h hng
          · have hgm : g ∈ rr := by simpa using hb3
            exact ⟨rr, g, _, _, rfl, e5 _ _ hl', hG, .inr hgm, e.trans e5⟩
        · rintro σ' H' ⟨rr, g, r6, r7, rfl, hl', hG, hor, e⟩
          have hrl : rr.length ≤ n := nodup_lt hG.nd hG.lt
          have hgm : g ∈ rr := by
            rcases hor with h | h
            · omega
            · exact h
          refine s_when (b := decide (way = 0)) (et_is (et_test (ev_op (ev_var rfl) ev_c (rv_eq rfl))) (decide_eq_decide.mpr ⟨fun z => V.int.inj z, fun z => congrArg V.int z⟩)) (fun _ H5 e5 => ?_) (fun _ H5 e5 => ⟨l, rr.map fun (m : Nat) => (m : Int), _, _, _, rfl, by rw [e5 _ _ hl', natV_intV], by rw [List.length_map]; omega, hl, e.trans e5⟩)
          have l5 := e5 _ _ hl'
          refine s_asgL (el_sl (ev_var rfl) (eo_some (ev_index (ev_var rfl) l5 (ea_cons (ev_var rfl) ea_nil) hgm)) eo_none (sq_of l5)) fun l2 H6 hl2 e6 h6 => ?_
          rw [cutV_drop, natV_drop] at h6
          exact ⟨l2, (rr.drop (rr.idxOf g)).map fun (m : Nat) => (m : Int), _, _, _, rfl, by rw [h6, natV_intV], by rw [List.length_map, List.length_drop]; omega, fresh_back (e.trans e5) hl2, (e.trans e5).trans e6⟩
      · have e04 := e03.trans e4
        have c0 := Int.emod_nonneg (cell ns ((11 : Nat) : Int)) (by decide : (5 : Int) ≠ 0)
        have c1 := Int.emod_lt_of_pos (cell ns ((11 : Nat) : Int)) p5
        obtain ⟨ct, hct, hcte⟩ : ∃ k : Nat, k < 5 ∧ cell ns ((11 : Nat) : Int) % 5 = (k : Int) := ⟨(cell ns ((11 : Nat) : Int) % 5).toNat, by omega, by omega⟩
        refine s_forR1 (n := (ct : Int)) (ea_cons (ev_is (ev_op (ccell _ _ _ 11 e04 rfl ev_c) ev_c (rv_I p5)) (congrArg V.int hcte)) ea_nil) ⟨by omega, by omega⟩ (fun i σ' H' => ∃ (rr : List Int) (r6 : Option V), σ' = [some (.ref a), some (.ref b), some (.int (n : Int)), some (.ref l), some (.int (g0 : Int)), some (.int way), r6, none, none, none, none] ∧ H' l = some (.lst (intV rr)) ∧ rr.length = i ∧ Ex H H')
          (fun H5 e5 => ⟨[], none, rfl, (e4.trans e5) _ _ h3l, rfl, e04.trans e5⟩) ?_ (fun σ' H' ⟨rr, r6, h, h2, h3, e⟩ => ⟨l, rr, _, _, _, h, h2, by omega, hl, e⟩)
        rintro i σ' H' hi ⟨rr, r6, rfl, hl', hrr, e⟩
        generalize hx : mixN (cell ns ((12 : Nat) : Int)) i = x
        refine s_app (l := l) hl' (ev_var rfl) (v := .int ((x : Int) % (n : Int))) (ev_op (ev_is (ev_callV (z := .int (mixN (cell ns ((12 : Nat) : Int)) i : Int)) (ea_cons (ccell _ _ _ 12 e rfl ev_c) (ea_cons (ev_var rfl) ea_nil)) fun H2 e2 Q E q => ⟨_, i, rfl, q⟩) (by rw [hx])) (ev_var rfl) (rv_I pn)) (by rw [intV_len]; omega) fun H6 e6 => ?_
        exact ⟨rr ++ [(x : Int) % (n : Int)], _, rfl, by rw [upd_same, intV_app]; rfl, by rw [List.length_append, hrr]; rfl, Ex.mut (e.trans e6) hl⟩
    rintro _ H4 ⟨l2, rr, r4, r6, r7, rfl, h4, hrl, hl2, e04⟩
    refine q_cut (M := fun σ' H' => ∃ (l3 : Addr) (r3 : List Int) (r8 r9 : Option V), σ' = [some (.ref a), some (.ref b), some (.int (n : Int)), some (.ref l3), r4, some (.int way), r6, r7, r8, r9, none] ∧ H' l3 = some (.lst (intV r3)) ∧ r3.length ≤ 20 ∧ H l3 = none ∧ Ex H H') ?_ ?_
    · refine s_when (et_test (ev_op (ev_op (ccell _ _ _ 16 e04 rfl ev_c) ev_c (rv_I p7)) ev_c (rv_eq rfl))) (fun _ H5 e5 => ?_) (fun _ H5 e5 => ⟨l2, rr, _, _, rfl, e5 _ _ h4, by omega, hl2, e04.trans e5⟩)
      have e05 := e04.trans e5
      obtain ⟨at', hat, hate⟩ : ∃ k : Nat, k < rr.length + 1 ∧ cell ns ((16 : Nat) : Int) / 7 % ((rr.length : Int) + 1) = (k : Int) := by
        have k0 := Int.emod_nonneg (cell ns ((16 : Nat) : Int) / 7) (by omega : (rr.length : Int) + 1 ≠ 0)
        have k1 := Int.emod_lt_of_pos (cell ns ((16 : Nat) : Int) / 7) (by omega : (0 : Int) < (rr.length : Int) + 1)
        exact ⟨(cell ns ((16 : Nat) : Int) / 7 % ((rr.length : Int) + 1)).toNat, by omega, by omega⟩
      refine q_asg (v := .int (at' : Int)) (ev_is (ev_op (ev_op (ccell _ _ _ 16 e05 rfl ev_c) ev_c (rv_I ⟨by decide, by decide⟩)) (ev_op (ev_is (ev_len (ev_var rfl) (sq_of (e5 _ _ h4))) (w := .int (rr.length : Int)) (by rw [intV_len])) ev_c rv_I0) (rv_I (by show (0 : Int) < (rr.length : Int) + 1; omega))) (congrArg V.int hate)) fun H6 e6 => ?_
      have pw20 : CPow 10 20 := ⟨by decide, by decide, by decide⟩
      refine q_asg (v := .int (cell ns ((17 : Nat) : Int) % 10 ^ 20)) (ev_op (ccell _ _ _ 17 (e05.trans e6) rfl ev_c) (ev_op ev_c ev_c (rv_I pw20)) (rv_I (by show (0 : Int) < 10 ^ 20; decide))) fun H7 e7 => ?_
      have e57 := e6.trans e7
      have e07 := e05.trans e57
      have h7 := (e5.trans e57) _ _ h4
      generalize cell ns ((17 : Nat) : Int) % 10 ^ 20 = far
      obtain ⟨z, hz⟩ : ∃ z : Int, atI [V.int (-1), V.int (n : Int), V.int ((n : Int) + far), V.int (-1 - far)] (cell ns ((17 : Nat) : Int) % 4) = some (.int z) := by
        obtain ⟨v, hv, hat⟩ := at4 (x := cell ns ((17 : Nat) : Int)) (V.int (-1)) (V.int (n : Int)) (V.int ((n : Int) + far)) (V.int (-1 - far))
        rcases hv with rfl | rfl | rfl | rfl <;> exact ⟨_, hat⟩
      refine s_asgL (xs := (intV rr).take at' ++ [V.int z] ++ (intV rr).drop at') (el_cat (ew_new (el_cat (ew_new ?_) (ew_new (el_lst (ea_cons (ev_opL1 (xs := [V.int (-1), V.int (n : Int), V.int ((n : Int) + far), V.int (-1 - far)]) (el_lst (ea_cons (ev_un ev_c ru_neg) (ea_cons (ev_var rfl) (ea_cons (ev_op (ev_var rfl) (ev_var rfl) rv_I0) (ea_cons (ev_op (ev_un ev_c ru_neg) (ev_var rfl) rv_I0) ea_nil)))) (by show 4 ≤ 100000; decide)) (fun H8 e8 => ev_op (ccell _ _ _ 17 (e07.trans e8) rfl ev_c) ev_c (rv_I p4)) fun p H8 h8 e8 => rv_ixL (sq_of h8) hz) ea_nil) (by show 1 ≤ 100000; decide))) ?_)) (ew_new ?_) ?_) fun l3 H8 hl3 e8 h8 => ?_
      · rw [← cutV_take]
        exact el_sl (ev_var rfl) eo_none (eo_some (ev_var rfl)) (sq_of h7)
      · rw [List.length_take, intV_len]
        show _ + 1 ≤ 100000
        omega
      · rw [← cutV_drop]
        exact el_sl (ev_var rfl) (eo_some (ev_var rfl)) eo_none (sq_of h7)
      · rw [List.length_append, List.length_take, List.length_drop, intV_len]
        show _ + 1 + _ ≤ 100000
        omega
      · refine ⟨l3, rr.take at' ++ [z] ++ rr.drop at', _, _, rfl, ?_, ?_, fresh_back e07 hl3, e07.trans e8⟩
        · rw [h8, intV_app, intV_app]
          unfold intV
          rw [List.map_take, List.map_drop]
          rfl
        · rw [List.length_append, List.length_append, List.length_take, List.length_drop]
          show _ + 1 + _ ≤ 20
          omega
    rintro _ H5 ⟨l3, r3, r8, r9, rfl, h5, hr3, hl3, e05⟩
    exact s_ret (ev_var rfl) fun H6 e6 => q r3 hr3 l3 H6 hl3 (e05.trans e6) (e6 _ _ h5)
/-! ### the law -/
def sp_law (K : PySem.W.Frag) (P0 : Addr) : Sp := fun vs H Q _ => ∃ (a : Addr) (ns : List Int), vs = [.ref a] ∧ SqL K H a (ns.map V.int) ∧ LamX.Tabs (lamT P0) H ∧ ∀ H', Q (.bl true) H'
theorem mo_out {o : Out} : Mo (RetOut o) := fun _ _ _ e k => k.go e
theorem out_cases (o : Out) : (∃ wd : Str, SeqAt.shaped (.str wd) = true ∧ ∀ H Q, RetV (.str wd) H Q → RetOut o H Q) ∨ ∃ p q : Nat, ∀ H Q, RetU (intV [(p : Int), (q : Int)]) H Q → RetOut o H Q := match o with
  | .meeting => .inl ⟨"meeting", by decide +kernel, fun _ _ k => k⟩
  | .ring => .inl ⟨"ring", by decide +kernel, fun _ _ k => k⟩
  | .frac p q => .inr ⟨p, q, fun _ _ k => k⟩
theorem rv_neW {K : PySem.W.Frag} {H : Hp} {wd : Str} (h : SeqAt.shaped (.str wd) = true) : RV (rNeD K) (.str wd) (.str wd) H (.bl false) := by
  have r := rv_neD (K := K) (H := H) (x := .str wd) (y := .str wd) (d := .str wd) (e := .str wd) (fun _ _ => .str wd) (fun _ _ => .str wd) h h
  rw [PyData.eqv] at r
  simpa using r
theorem isi_str {K : PySem.W.Frag} {σ : L2.St} {H : Hp} {ta : TE} {x : Str} {n : String} {b : Bool} (ha : Ev ta σ H (.str x)) (e : kitB "str" n = some b := by decide +kernel) : Ev (tCB (rIsi K) (tCons ta (tCons (tC (.ty n)) tNil))) σ H (.bl b) := ev_isi ha (fun _ _ => .base (.str x)) (kit_ty e)
section
variable {K : PySem.W.Frag} {σ : L2.St} {H : Hp} {ta tb tc td tl : TE} {D : Ends} {tu tz : TS}
theorem ek_rows {v1 v3 v4 : V} {xs : List V} (ha : Ev ta σ H v1) (hb : EvL tb σ H xs) (hc : Ev tc σ H v3) (hd : Ev td σ H v4) : EvK (tLst (tCons ta (tCons tb (tCons tc (tCons td tNil))))) σ H (fun H1 Q => ∀ p rv H2, H1 p = none → H1 rv = none → Ex H1 H2 → H2 p = some (.lst [v1, .ref rv, v3, v4]) → H2 rv = some (.lst xs) → p ≠ rv → Q (.ref p) H2) := fun H1 e Q q =>
  ha H1 e _ fun H2 e2 => hb H2 (e.trans e2) _ fun rv H3 hr e3 h3 => hc H3 ((e.trans e2).trans e3) _ fun H4 e4 => hd H4 (((e.trans e2).trans e3).trans e4) _ fun H5 e5 => ⟨by show 4 ≤ sizeLine; exact sz_of (by decide), fun p hp => by
    have k5 := (e4.trans e5) _ _ h3
    have e15 := ((e2.trans e3).trans e4).trans e5
    exact q p rv _ (fresh_back e15 hp) (fresh_back e2 hr) (e15.trans (Ex.new hp)) upd_same (Ex.new hp _ _ k5) fun z => by rw [z, k5] at hp; cases hp⟩
/-- what a loop over enumerate asks -/
def EnumR (K : PySem.W.Frag) (tu : TS) (D : Ends) (σ : L2.St) (i j : Nat) (x : V) (H2 : Hp) : Prop := ∃ a xs, [x] = [V.ref a] ∧ SqL K H2 a xs ∧ ∃ W : Nat → Nat → L2.St → Hp → Prop, (∃ m, W 0 m σ H2) ∧ ∀ n m σ' H', W n m σ' H' → ((Ite K a).stop n H' ∧ D.nx σ' H') ∨ ((Ite K a).go n H' ∧ ∃ N : L2.St → Hp → Prop, (∀ σ2 H2, N σ2 H2 → ∃ m', m' < m ∧ W (n + 1) m' σ2 H2) ∧
      ∀ v H2, (Ite K a).yld n H' v H2 → gTup K 2 (gCons (gName i) (gCons (gName j) gNil)) v σ' H2 fun σ3 H3 => tu { D with nx := N, ct := N, bk := D.nx } σ3 H3)
theorem q_forEK {i j : Nat} {C : Hp → VK → Prop} (h : EvK tl σ H C) (k : C H fun x H2 => EnumR K tu { D with nx := tz D } σ i j x H2) : tSeq (tFor (iEnum K (tCons tl tNil)) (gTup K 2 (gCons (gName i) (gCons (gName j) gNil))) tu) tz D σ H := h H (Ex.refl H) _ k
theorem enum_go {i j : Nat} {p : Addr} {xs : List V} {H2 : Hp} (hx : SqL K H2 p xs) (Pv : Nat → L2.St → Hp → Prop) (h0 : Pv 0 σ H2) (hl : ∀ n σ' H', Pv n σ' H' → SqL K H' p xs)
    (hs : ∀ n x σ' H' H2, xs[n]? = some x → Pv n σ' H' → Ex H' H2 → tu { D with nx := Pv (n + 1), ct := Pv (n + 1), bk := tz D } ((σ'.set i (some (.int (n : Int)))).set j (some x)) H2) (hd : ∀ σ' H', Pv xs.length σ' H' → tz D σ' H') : EnumR K tu { D with nx := tz D } σ i j (.ref p) H2 := ⟨p, xs, rfl, hx, walkE (D := { D with nx := tz D }) Pv h0 hl hs hd⟩
end
abbrev s_law : Stmt := (top 40)
abbrev N_law : List Str := ["_law_script", "_law_many_here", "_law_ways_here", "_law_ring", "_law_web", "_law_other", "_law_handed", "_law_k", "_law_row", "_law_due_here", "_law_found", "_law_number"]
theorem sc_law : FnScope N_law ["_law_script"] (defScope s_law) := ⟨rfl, rfl, rfl, by decide +kernel, rfl, by decide +kernel, by decide +kernel⟩

theorem ok_law (T : Txt K mg) (TB : LamX.TabB base mg T.c_lw T.P_lw) : FnOk P w K mg base CX0 7 T.a_law T.d_law ["_law_script"] (sp_law K T.P_lw) := by
  refine okN T.F_law sc_law (fun vs H Q E h => ?_) (fun cdv A outer s H vs Q E HR h => ?_)
  · obtain ⟨a, ns, rfl, _⟩ := h
    rfl
  · obtain ⟨a, ns, rfl, hS0, hTb, q⟩ := h
    refine ⟨_, (pss_cons (ps_set (i := 1) sc_law.nd rfl (by first | exact Or.inl rfl | exact Or.inr rfl) (pe_call (ok_law_many T) (HR.mono (by decide)) (by rfl) T.g_law_many T.F_law_many.kp T.b_law_many .nil pass0 (pa_cons (pv 0) pa_nil)))
  (pss_cons (ps_set (i := 2) sc_law.nd rfl (by first | exact Or.inl rfl | exact Or.inr rfl) (pe_call (ok_law_ways T TB) (HR.mono (by decide)) (by rfl) T.g_law_ways T.F_law_ways.kp T.b_law_ways .nil pass0 (pa_cons (pv 0) (pa_cons (pv 1) pa_nil))))
  (pss_cons (ps_set (i := 3) sc_law.nd rfl (by first | exact Or.inl rfl | exact Or.inr rfl) (pe_call (ok_law_list T) (HR.mono (by decide)) (by rfl) T.g_law_list T.F_law_list.kp T.b_law_list .nil pass0 (pa_cons (pv 0) (pa_cons (pv 2) (pa_cons (pv 1) pa_nil)))))
  (pss_cons (ps_set (i := 4) sc_law.nd rfl (by first | exact Or.inl rfl | exact Or.inr rfl) (pe_make T.M_Web (ok_Web_init T) (HR.mono (by decide)) (by rfl) T.g_Web T.b_Web_init .nil pass0 (pa_cons (pv 1) (pa_cons (pe_callTy call_list_of (by rfl) T.n_list (by decide +kernel) (pa_cons (pv 2) pa_nil)) pa_nil))))
  (pss_cons (ps_set (i := 5) sc_law.nd rfl (by first | exact Or.inl rfl | exact Or.inr rfl) (pe_lst (pa_cons (pe_op op_mod (pe_call (ok_law_cell_at T) (HR.mono (by decide)) (by rfl) T.g_law_cell_at T.F_law_cell_at.kp T.b_law_cell_at .nil pass0 (pa_cons (pv 0) (pa_cons pe_int pa_nil))) (pv 1)) pa_nil)))
  (pss_cons (ps_set (i := 6) sc_law.nd rfl (by first | exact Or.inl rfl | exact Or.inr rfl) (pe_lst pa_nil))
  (pss_cons (ps_for PassesOwn.never rfl (pi_enum (by rfl) T.n_enumerate (pa_cons (pe_lst (pa_cons (pv 3) (pa_cons (pe_listRev rfl (by rfl) T.n_list (by rfl) T.n_reversed (pv 3)) (pa_cons (pv 5) (pa_cons (pv 3) pa_nil))))) pa_nil)) (pg_tup rfl (pgs_cons (pg_name (i := 7) sc_law.nd rfl (by first | exact Or.inl rfl | exact Or.inr rfl)) (pgs_cons (pg_name (i := 8) sc_law.nd rfl (by first | exact Or.inl rfl | exact Or.inr rfl)) pgs_nil)))
  (pss_cons (ps_expr (pe_call (ok_law_stirred T) (HR.mono (by decide)) (by rfl) T.g_law_stirred T.F_law_stirred.kp T.b_law_stirred .nil pass0 (pa_cons (pv 4) (pa_cons (pe_op op_rep (pe_lst (pa_cons (pv 7) pa_nil)) (pv 1)) (pa_cons (pe_call (ok_law_cell_at T) (HR.mono (by decide)) (by rfl) T.g_law_cell_at T.F_law_cell_at.kp T.b_law_cell_at .nil pass0 (pa_cons (pv 0) (pa_cons (pe_op op_add pe_int (pv 7)) pa_nil))) pa_nil)))))
  (pss_cons (ps_set (i := 9) sc_law.nd rfl (by first | exact Or.inl rfl | exact Or.inr rfl) (pe_call (ok_law_due T) (HR.mono (by decide)) (by rfl) T.g_law_due T.F_law_due.kp T.b_law_due .nil pass0 (pa_cons (pv 2) (pa_cons (pv 8) (pa_cons (pv 1) pa_nil)))))
  (pss_cons (ps_expr (pe_bm0 PySem.F.plainAttrs_list PySem.F.slot_list_clear PySem.F.type_list_clear mt_clear (pv 6)))
  (pss_cons (ps_expr (pe_bm PySem.F.plainAttrs_list PySem.F.slot_list_extend PySem.F.type_list_extend mt_extend (pv 6) (pa_cons (pv 8) pa_nil)))
  (pss_cons (ps_set (i := 10) sc_law.nd rfl (by first | exact Or.inl rfl | exact Or.inr rfl) (pe_call (ok_law_told T) (HR.mono (by decide)) (by rfl) T.g_law_told T.F_law_told.kp T.b_law_told .nil pass0 (pa_cons (pv 4) (pa_cons (pv 6) pa_nil))))
  (Evl.pss_cut (ps_if (pt_val (pe_callB call_isi (by rfl) T.n_isinstance (by decide +kernel) (pa_cons (pv 9) (pa_cons (pe_bltn (v := .ty "tuple") (by rfl) T.n_tuple (by decide +kernel) rfl) pa_nil))))
  (pss_one (ps_if (PW.pt (pw_or (pt_not (pt_val (pe_callB call_isi (by rfl) T.n_isinstance (by decide +kernel) (pa_cons (pv 10) (pa_cons (pe_bltn (v := .ty "tuple") (by rfl) T.n_tuple (by decide +kernel) rfl) pa_nil))))) (pw_or1 (pt_not (pt_val (pe_callB (cr_all rfl) (by rfl) T.n_all (by decide +kernel) (pa_cons (pe_lc (g := (gName 11)) (tt := tYes) (te := (tCall sp_law_whole [] E0 (tCons (tVar 11) tNil))) (own := [("_law_number", 11)]) rfl sc_law.nd (pi_tup (pv 10)) (blkOk_by (own := [("_law_number", 11)]) (N := N_law) (sc := defScope s_law) (by decide +kernel)) (fun _ _ _ _ _ => (pg_name (i := 11) sc_law.nd rfl (by first | exact Or.inl rfl | exact Or.inr rfl))) (fun _ _ _ _ _ => pts_nil) (fun _ _ _ _ _ => (pe_call (ok_law_whole T) (HR.mono (by decide)) (by rfl) T.g_law_whole T.F_law_whole.kp T.b_law_whole .nil pass0 (pa_cons (pv 11) pa_nil)))) pa_nil)))))))
  (pss_one (ps_ret pe_bl)) pss_nil)) pss_nil)
  (pss_one (ps_if (PW.pt (pw_or (pt_cmpR (op_neD HR.units) (pv 10) (pv 9) (nomark _)) (pw_or1 (pt_cmpR (op_neD HR.units) (pv 6) (pv 8) (nomark _)))))
  (pss_one (ps_ret pe_bl)) pss_nil)))))))))
  (pss_one (ps_ret pe_bl))))))))), ?_⟩
    refine q_asgK (C := fun H1 Q => ∀ n : Nat, 1 ≤ n → n ≤ 12 → RetV (.int (n : Int)) H1 Q) (EvA.toCall (fun _ _ _ e k n h1 h2 => mo_v _ _ _ e (k n h1 h2)) (ea_cons (ev_var rfl) ea_nil) fun H1 e1 Q E k => ⟨a, ns, rfl, ex_l e1 hS0, k⟩) fun n n1 n12 H1 e1 => ?_
    refine q_asgK (EvA.toCall (mo_ways (n := n) (B := 9999)) (ea_cons (ev_var rfl) (ea_cons (ev_var rfl) ea_nil)) fun H2 e2 Q E k => ⟨a, ns, n, rfl, ex_l (e1.trans e2) hS0, hTb.ext (e1.trans e2), n1, n12, k⟩) fun ws D H2 us hw hdel hwl eN hD hT => ?_
    have hS := ex_lN ((LamX.ExtN.of e1).trans eN) hS0
    have cc : ∀ (σ : L2.St) (H1 : Hp) (t : TE) (k : Nat), Ex H2 H1 → σ[0]? = some (some (.ref a)) → Ev t σ H1 (.int (k : Int)) → Ev (tCall (sp_law_cell_at K) [] E0 (tCons (tVar 0) (tCons t tNil))) σ H1 (.int (cell ns (k : Int))) := fun σ H1 t k e hσ ht =>
      ev_callV (ea_cons (ev_var hσ) (ea_cons ht ea_nil)) fun H2 e2 Q E q => ⟨a, ns, k, rfl, ex_l (e.trans e2) hS, by omega, q⟩
    refine q_asgK (C := fun H1 Q => ∀ r : List Int, r.length ≤ 20 → RetL (intV r) H1 Q) (EvA.toCall (fun _ _ _ e k r h => mo_l _ _ _ e (k r h)) (ea_cons (ev_var rfl) (ea_cons (ev_var rfl) (ea_cons (ev_var rfl) ea_nil))) fun H3 e3 Q E k => ⟨a, D, ns, n, ws, us, rfl, ex_l e3 hS, e3 _ _ hD, hT.ex e3, hw, k⟩) fun r hrl lg H3 hlg e3 hr3 => ?_
    refine q_asgK (ek_makeW (C := T.a_Web) (n := n) (ws := ws) (ev_var rfl) (ek_weak (ek_listT (ev_var rfl) (e3 _ _ hD) (hT.ex e3))) hw) fun pw H4 hpw e4 hW => ?_
    have pn : (0 : Int) < (n : Int) := by omega
    refine q_asgL (xs := intV [cell ns ((18 : Nat) : Int) % (n : Int)]) (el_lst (ea_cons (ev_op (cc _ _ _ 18 (e3.trans e4) rfl ev_c) (ev_var rfl) (rv_I pn)) ea_nil) (by show 1 ≤ 100000; decide)) fun lo H5 hlo e5 h5 => ?_
    generalize cell ns ((18 : Nat) : Int) % (n : Int) = oth at h5
    have e35 := e4.trans e5
    have e25 := e3.trans e35
    have hW5 := hW.ex e5
    have hr5 := e35 _ _ hr3
    have hD5 := e25 _ _ hD
    have hT5 := hT.ex e25
    refine q_asgL (xs := intV []) (el_lst ea_nil (Nat.zero_le _)) fun lh H6 hlh e6 h6 => ?_
    have hlh5 : H5 lh = none := hlh
    have hrev : intV r.reverse = (intV r).reverse := List.map_reverse
    refine q_forEK (K := K) (ek_rows (v1 := .ref lg) (v3 := .ref lo) (v4 := .ref lg) (xs := intV r.reverse) (ev_var rfl) (by
      rw [hrev]
      exact el_rev (es_of (ev_var rfl) (sq_of (e6 _ _ hr5)))) (ev_var rfl) (ev_var rfl)) fun lr rv H7 hlr hrv e7 h7 h7r hne => ?_
    have lrlh : lr ≠ lh := fun z => by rw [z, h6] at hlr; cases hlr
    have rvlh : rv ≠ lh := fun z => by rw [z, h6] at hrv; cases hrv
    refine enum_go (K := K) (sq_of h7) (fun i σ' H' => ∃ (r7 r8 r9 r10 : Option V) (hx : List Int), σ' = [some (.ref a), some (.int (n : Int)), some (.ref D), some (.ref lg), some (.ref pw), some (.ref lo), some (.ref lh), r7, r8, r9, r10, none] ∧ H' lh = some (.lst (intV hx)) ∧ H' lr = some (.lst [.ref lg, .ref rv, .ref lo, .ref lg]) ∧ H' rv = some (.lst (intV r.reverse)) ∧ Ex H5 H')
      ⟨none, none, none, none, [], rfl, e7 _ _ h6, h7, h7r, e6.trans e7⟩ (fun i σ' H' ⟨_, _, _, _, _, _, _, h, _⟩ => sq_of h) ?_ ?_
    · rintro i x σ' H' H8 hx0 ⟨r7, r8, r9, r10, hx, rfl, hlh', hlr', hrv', eX⟩ e8
      have hi : i < 4 := (List.getElem?_eq_some_iff.mp hx0).1
      obtain ⟨rp, rt, rfl, hrp, hrt, hrpl⟩ : ∃ (rp : Addr) (rt : List Int), x = .ref rp ∧ H' rp = some (.lst (intV rt)) ∧ rt.length ≤ 20 ∧ rp ≠ lh := by
        have nlg : ∀ y ys, H5 y = some (.lst ys) → y ≠ lh := fun y ys h z => by rw [z, hlh5] at h; cases h
        match i, hi, hx0 with
        | 0, _, hx0 => exact ⟨lg, r, (Option.some.inj hx0).symm, eX _ _ hr5, hrl, nlg _ _ hr5⟩
        | 1, _, hx0 => exact ⟨rv, r.reverse, (Option.some.inj hx0).symm, hrv', by rw [List.length_reverse]; exact hrl, rvlh⟩
        | 2, _, hx0 => exact ⟨lo, [oth], (Option.some.inj hx0).symm, eX _ _ h5, by show 1 ≤ 20; decide, nlg _ _ h5⟩
        | 3, _, hx0 => exact ⟨lg, r, (Option.some.inj hx0).symm, eX _ _ hr5, hrl, nlg _ _ hr5⟩
      have eX8 := eX.trans e8
      refine q_drop (ev_stirred (hW5.ex eX8) hw (ts := List.replicate n (i : Int)) (List.length_replicate) (ev_var rfl) (es0_new (el_repV (ev_var rfl) (ev_var rfl) (by omega))) fun H9 e9 => cc _ _ _ (30 + i) ((e25.trans eX8).trans e9) rfl (ev_is (ev_op ev_c (ev_var rfl) rv_I0) (by rw [Int.natCast_add]; rfl))) fun H9 e9 => ?_
      have e89 := e8.trans e9
      have eX9 := eX.trans e89
      have dueK : ∀ (r9 : Option V) (H10 : Hp), Ex H9 H10 → EvK (tCall sp_law_due [] E0 (tCons (tVar 2) (tCons (tVar 8) (tCons (tVar 1) tNil)))) [some (.ref a), some (.int (n : Int)), some (.ref D), some (.ref lg), some (.ref pw), some (.ref lo), some (.ref lh), some (.int (i : Int)), some (.ref rp), r9, r10, none] H10 (RetOut (outOf n ws rt)) := fun r9 H10 e10 =>
        EvA.toCall mo_out (vs := [.ref D, .ref rp, .int (n : Int)]) (ea_cons (ev_var rfl) (ea_cons (ev_var rfl) (ea_cons (ev_var rfl) ea_nil))) fun H11 e11 Q E k => ⟨D, rp, n, ws, us, rt, rfl, (eX9.trans (e10.trans e11)) _ _ hD5, hT5.ex (eX9.trans (e10.trans e11)), hw, (e89.trans (e10.trans e11)) _ _ hrp, by omega, k⟩
      -- handed is filled anew, and asked
      have fill : ∀ (dv : V) (H10 : Hp) (tz : TS) (Dd : Ends), Ex H9 H10 → (∀ H11, Ex H5 H11 → H11 lh = some (.lst (intV rt)) → (∀ y o, H10 y = some o → y ≠ lh → H11 y = some o) → tz Dd [some (.ref a), some (.int (n : Int)), some (.ref D), some (.ref lg), some (.ref pw), some (.ref lo), some (.ref lh), some (.int (i : Int)), some (.ref rp), some dv, r10, none] H11) →
          tSeq (tDrop (tBM0 K "list" rClear (tVar 6))) (tSeq (tDrop (tBM K "list" rExtend (tVar 6) (tCons (tVar 8) tNil))) tz) Dd [some (.ref a), some (.int (n : Int)), some (.ref D), some (.ref lg), some (.ref pw), some (.ref lo), some (.ref lh), some (.int (i : Int)), some (.ref rp), some dv, r10, none] H10 := fun dv H10 tz Dd e10 k => by
        have e810 := e89.trans e10
        refine q_clear (e810 _ _ hlh') (ev_var rfl) fun H11 e11 => ?_
        have eA := e810.trans e11
        have x11 : Ex H5 (upd H11 lh (.lst [])) := Ex.mut (eX.trans eA) hlh5
        have l11 : upd H11 lh (.lst []) lh = some (.lst (intV [])) := upd_same
        have p11 : upd H11 lh (.lst []) rp = some (.lst (intV rt)) := by
          rw [upd_ne hrpl]
          exact eA _ _ hrp
        have o11 : ∀ y o, H10 y = some o → y ≠ lh → upd H11 lh (.lst []) y = some o := fun y o h1 h2 => by
          rw [upd_ne h2]
          exact e11 _ _ h1
        generalize upd H11 lh (.lst []) = HA at x11 l11 p11 o11
        refine q_extend (K := K) l11 p11 (ev_var rfl) (ev_var rfl) (by rw [intV_len, intV_len]; show 0 + rt.length ≤ 100000; omega) fun H12 e12 => ?_
        refine k _ (Ex.mut (x11.trans e12) hlh5) upd_same fun y o h1 h2 => ?_
        rw [upd_ne h2]
        exact e12 _ _ (o11 y o h1 h2)
      rcases out_cases (outOf n ws rt) with ⟨wd, hwd, ko⟩ | ⟨pp, qq, ko⟩
      · refine q_asgK (dueK _ _ (Ex.refl _)) (ko _ _ fun H10 e10 => fill _ _ _ _ e10 fun H11 x11 l11 o11 => ?_)
        refine q_asgK (EvA.toCall mo_out (vs := [.ref pw, .ref lh]) (ea_cons (ev_var rfl) (ea_cons (ev_var rfl) ea_nil)) fun H12 e12 Q E k => ⟨pw, lh, n, ws, rt, rfl, hW5.ex (x11.trans e12), hw, e12 _ _ l11, by omega, k⟩) (ko _ _ fun H12 e12 => ?_)
        refine q_cut (M := fun σ' H' => σ' = [some (.ref a), some (.int (n : Int)), some (.ref D), some (.ref lg), some (.ref pw), some (.ref lo), some (.ref lh), some (.int (i : Int)), some (.ref rp), some (.str wd), some (.str wd), none] ∧ Ex H11 H') (s_when (b := false) (et_B (isi_str (ev_var rfl))) (fun z => by cases z) fun _ H13 e13 => ⟨rfl, e12.trans e13⟩) ?_
        rintro _ H13 ⟨rfl, e1113⟩
        have keep : ∀ y o, H' y = some o → y ≠ lh → H13 y = some o := fun y o h1 h2 => e1113 _ _ (o11 y o ((e89.trans e10) _ _ h1) h2)
        refine s_when (b := false) (et_or (a := false) (et_test (ev_op (ev_var rfl) (ev_var rfl) (rv_neW hwd))) fun _ => et_is (et_test (ev_neLL (ev_var rfl) (ev_var rfl) (e1113 _ _ l11) (keep _ _ hrp hrpl))) (by simp)) (fun z => by cases z) fun _ H14 e14 => ?_
        exact ⟨_, _, _, _, rt, rfl, (e1113.trans e14) _ _ l11, e14 _ _ (keep _ _ hlr' lrlh), e14 _ _ (keep _ _ hrv' rvlh), x11.trans (e1113.trans e14)⟩
      · refine q_asgK (dueK _ _ (Ex.refl _)) (ko _ _ fun pd H10 hpd e10 h10 => fill _ _ _ _ e10 fun H11 x11 l11 o11 => ?_)
        have pdl : pd ≠ lh := fun z => by
          have := (e89.trans e10) _ _ hlh'
          rw [← z, h10] at this
          cases this
        have d11 := o11 _ _ h10 pdl
        refine q_asgK (EvA.toCall mo_out (vs := [.ref pw, .ref lh]) (ea_cons (ev_var rfl) (ea_cons (ev_var rfl) ea_nil)) fun H12 e12 Q E k => ⟨pw, lh, n, ws, rt, rfl, hW5.ex (x11.trans e12), hw, e12 _ _ l11, by omega, k⟩) (ko _ _ fun pf H12 hpf e12 h12 => ?_)
        refine q_cut (M := fun σ' H' => σ' = [some (.ref a), some (.int (n : Int)), some (.ref D), some (.ref lg), some (.ref pw), some (.ref lo), some (.ref lh), some (.int (i : Int)), some (.ref rp), some (.ref pd), some (.ref pf), none] ∧ Ex H12 H') (s_when (b := true) (et_B (isi_tup (ev_var rfl) (e12 _ _ d11))) (fun _ H13 e13 => ?_) (fun z => by cases z)) ?_
        · refine s_when (b := false) (et_or (a := false) (et_not (a := true) (et_B (isi_tup (ev_var rfl) (e13 _ _ h12)))) fun _ => et_not (a := true) (et_B (ev_allT (n := 2) ?_))) (fun z => by cases z) fun _ H14 e14 => ⟨rfl, e13.trans e14⟩
          exact el_lcTp (K := K) (σ := [some (.ref a), some (.int (n : Int)), some (.ref D), some (.ref lg), some (.ref pw), some (.ref lo), some (.ref lh), some (.int (i : Int)), some (.ref rp), some (.ref pd), some (.ref pf), none]) (H := H13) (tl := tVar 10) (t := tYes) (te := tCall sp_law_whole [] E0 (tCons (tVar 11) tNil)) (j := 11) (vs := [11]) (fun _ => true) (fun _ => .bl true) (ev_var rfl) (e13 _ _ h12) (by show 2 ≤ 40000; decide) (fun x => rfl) (fun i x H1 e1 hx => et_true)
            (fun i x H1 e1 hx _ => by
              have hi := (List.getElem?_eq_some_iff.mp hx).1
              rw [intV_len] at hi
              rw [intV_at hi] at hx
              obtain rfl := Option.some.inj hx
              exact ev_whole (ev_var rfl))
        rintro _ H13 ⟨rfl, e1213⟩
        have e1113 := e12.trans e1213
        have keep : ∀ y o, H' y = some o → y ≠ lh → H13 y = some o := fun y o h1 h2 => e1113 _ _ (o11 y o ((e89.trans e10) _ _ h1) h2)
        refine s_when (b := false) (et_or (a := false) (et_is (et_test (ev_op (ev_var rfl) (ev_var rfl) (rv_neT (e1213 _ _ h12) (e1113 _ _ d11)))) (by simp)) fun _ => et_is (et_test (ev_neLL (ev_var rfl) (ev_var rfl) (e1113 _ _ l11) (keep _ _ hrp hrpl))) (by simp)) (fun z => by cases z) fun _ H14 e14 => ?_
        exact ⟨_, _, _, _, rt, rfl, (e1113.trans e14) _ _ l11, e14 _ _ (keep _ _ hlr' lrlh), e14 _ _ (keep _ _ hrv' rvlh), x11.trans (e1113.trans e14)⟩
    · rintro σ' H' ⟨r7, r8, r9, r10, hx, rfl, _, _, _, eX⟩
      exact s_ret ev_c fun H8 _ => q H8
end
/-! ### what the top has written: the head -/
set_option maxHeartbeats 0
def fn : List He.DefD := ([⟨("lowest", none), "lowest", "lowest", defArgs (top 9), defBody (top 9), defScope (top 9), [], []⟩, ⟨("mean", none), "mean", "mean", defArgs (top 10), defBody (top 10), defScope (top 10), [], []⟩, ⟨("rounds", none), "rounds", "rounds", defArgs (top 12), defBody (top 12), defScope (top 12), [], []⟩, ⟨("step_back", none), "step_back", "step_back", defArgs (top 13), defBody (top 13), defScope (top 13), [], []⟩, ⟨("ring_of", none), "ring_of", "ring_of", defArgs (top 14), defBody (top 14), defScope (top 14), [], []⟩, ⟨("slower", none), "slower", "slower", defArgs (top 15), defBody (top 15), defScope (top 15), [], []⟩, ⟨("first_ring", none), "first_ring", "first_ring", defArgs (top 16), defBody (top 16), defScope (top 16), [], []⟩, ⟨("pace", none), "pace", "pace", defArgs (top 17), defBody (top 17), defScope (top 17), [], []⟩, ⟨("shape", none), "shape", "shape", defArgs (top 19), defBody (top 19), defScope (top 19), [], []⟩, ⟨("settled", none), "settled", "settled", defArgs (top 20), defBody (top 20), defScope (top 20), [], []⟩, ⟨("come_to", none), "come_to", "come_to", defArgs (top 25), defBody (top 25), defScope (top 25), [], []⟩, ⟨("Web", some "__init__"), "__init__", "Web.__init__", defArgs (inClass (top 26) 0), defBody (inClass (top 26) 0), defScope (inClass (top 26) 0), [], []⟩, ⟨("Web", some "need_meeting"), "need_meeting", "Web.need_meeting", defArgs (inClass (top 26) 1), defBody (inClass (top 26) 1), defScope (inClass (top 26) 1), [], []⟩, ⟨("Web", some "into"), "into", "Web.into", defArgs (inClass (top 26) 2), defBody (inClass (top 26) 2), defScope (inClass (top 26) 2), [], []⟩, ⟨("Web", some "delay"), "delay", "Web.delay", defArgs (inClass (top 26) 3), defBody (inClass (top 26) 3), defScope (inClass (top 26) 3), [], []⟩, ⟨("Web", some "ahead"), "ahead", "Web.ahead", defArgs (inClass (top 26) 4), defBody (inClass (top 26) 4), defScope (inClass (top 26) 4), [], []⟩, ⟨("Web", some "turns"), "turns", "Web.turns", defArgs (inClass (top 26) 5), defBody (inClass (top 26) 5), defScope (inClass (top 26) 5), [], []⟩, ⟨("Web", some "turned"), "turned", "Web.turned", defArgs (inClass (top 26) 6), defBody (inClass (top 26) 6), defScope (inClass (top 26) 6), [], []⟩, ⟨("_law_cell_at", none), "_law_cell_at", "_law_cell_at", defArgs (top 28), defBody (top 28), defScope (top 28), [], []⟩, ⟨("_law_whole", none), "_law_whole", "_law_whole", defArgs (top 29), defBody (top 29), defScope (top 29), [], []⟩] : List He.DefD) ++ ([⟨("_law_mixed", none), "_law_mixed", "_law_mixed", defArgs (top 30), defBody (top 30), defScope (top 30), [], []⟩, ⟨("_law_delay_by", none), "_law_delay_by", "_law_delay_by", defArgs (top 31), defBody (top 31), defScope (top 31), [], []⟩, ⟨("_law_many", none), "_law_many", "_law_many", defArgs (top 32), defBody (top 32), defScope (top 32), [], []⟩, ⟨("_law_ways", none), "_law_ways", "_law_ways", defArgs (top 33), defBody (top 33), defScope (top 33), [], []⟩, ⟨("_law_list", none), "_law_list", "_law_list", defArgs (top 34), defBody (top 34), defScope (top 34), [], []⟩, ⟨("_law_common", none), "_law_common", "_law_common", defArgs (top 35), defBody (top 35), defScope (top 35), [], []⟩, ⟨("_law_due", none), "_law_due", "_law_due", defArgs (top 36), defBody (top 36), defScope (top 36), [], []⟩, ⟨("_law_words", none), "_law_words", "_law_words", defArgs (top 37), defBody (top 37), defScope (top 37), [], []⟩, ⟨("_law_told", none), "_law_told", "_law_told", defArgs (top 38), defBody (top 38), defScope (top 38), [], []⟩, ⟨("_law_stirred", none), "_law_stirred", "_law_stirred", defArgs (top 39), defBody (top 39), defScope (top 39), [], []⟩, ⟨("law", none), "law", "law", defArgs (top 40), defBody (top 40), defScope (top 40), [], []⟩] : List He.DefD)
def fa : List He.Fa := ([.glo "lowest", .glo "mean", .glo "rounds", .glo "step_back", .glo "ring_of", .glo "slower", .glo "first_ring", .glo "pace", .glo "shape", .glo "settled", .glo "come_to", .glo "_law_cell_at", .glo "_law_whole", .glo "_law_mixed", .glo "_law_delay_by", .glo "_law_many", .glo "_law_ways", .glo "_law_list", .glo "_law_common", .glo "_law_due"] : List He.Fa) ++ ([.glo "_law_words", .glo "_law_told", .glo "_law_stirred", .glo "law", .glo "PaceError", .glo "BadCount", .glo "NoMeeting", .glo "BadDelay", .glo "Apart", .glo "NoRing", .glo "BadPace", .glo "Web", .int "MOST_MEETINGS" 12, .int "MOST_WAYS" 60, .int "GREATEST" 9999, .free "ValueError", .free "all", .free "bool", .free "enumerate", .free "int"] : List He.Fa) ++ ([.free "isinstance", .free "len", .free "list", .free "max", .free "min", .free "range", .free "reversed", .free "set", .free "sorted", .free "tuple", .cls "Web", .mkr "Web", .noat "Web" "many", .noat "Web" "ways", .noat "Web" "inner", .meth "Web" "need_meeting", .meth "Web" "into", .meth "Web" "delay", .meth "Web" "ahead", .meth "Web" "turns"] : List He.Fa) ++ ([.meth "Web" "turned"] : List He.Fa)
def names : List PySem.Str := (["__name__", "PaceError", "BadCount", "NoMeeting", "BadDelay", "Apart", "NoRing", "BadPace", "lowest", "mean", "rounds", "step_back", "ring_of", "slower", "first_ring", "pace", "shape", "settled", "MOST_MEETINGS", "MOST_WAYS"] : List PySem.Str) ++ (["GREATEST", "come_to", "Web", "_law_cell_at", "_law_whole", "_law_mixed", "_law_delay_by", "_law_many", "_law_ways", "_law_list", "_law_common", "_law_due", "_law_words", "_law_told", "_law_stirred"] : List PySem.Str)
abbrev R : PySem.W.OpenRow := PySem.W.OpenLaw.row PySem.Challenge.rw_meanpace_k06_a_ring_and_its_mean
def tf : List He.Defn := [("_law_ways", none)]
def ex (K : PySem.W.Frag) : Bool := (excB K (He.ga K "NoMeeting") (He.ga K "PaceError") && (kitB1 K (He.ga K "NoMeeting") [((He.ga K "BadCount"), false), ((He.ga K "NoMeeting"), true), ((He.ga K "BadDelay"), false), ((He.ga K "Apart"), false), ((He.ga K "NoRing"), false), ((He.ga K "BadPace"), false)] && (excB K (He.ga K "NoRing") (He.ga K "PaceError") && kitB1 K (He.ga K "NoRing") [((He.ga K "BadCount"), false), ((He.ga K "NoMeeting"), false), ((He.ga K "BadDelay"), false), ((He.ga K "Apart"), false), ((He.ga K "NoRing"), true), ((He.ga K "BadPace"), false)])))
abbrev hk : PySem.W.Hook := He.hookX 5 fa fn [] tf ex
def ob (s : PySem.W.SharedT) : He.AlX := He.obsX 5 fa fn [] tf ex (HandSHeadRun.getT s)
theorem ob_eq (s : PySem.W.SharedT) : ob s = hk.obs s.abs := He.obsX_eq (HandSHeadRun.getT_eq s)
abbrev steps : Nat := 20000
theorem run (w : World) : HandSHeadRun.RunEq R (PySem.W.view R.prog [40]) hk ob 20000 names w := by
  intro os
  kernel_rfl
theorem txt_of {w : World} {h : Heap} {K : PySem.W.Frag} {mg : Str → Option Value} (X : K.In h) (G : h.Ns mainGlobals mg) (S : He.SaysX fa fn [] tf ex w h K) : ∃ T : Txt K mg, T.a_law = He.ga K "law" ∧ T.c_lw = (He.cT K ("_law_ways", none)).1 ∧ T.P_lw = (He.cT K ("_law_ways", none)).2 := by
  have D : He.SaysD fa fn K := S.t.d
  obtain ⟨d_0, F_0⟩ := D.def_ 0 rfl
  obtain ⟨d_1, F_1⟩ := D.def_ 1 rfl
  obtain ⟨d_2, F_2⟩ := D.def_ 2 rfl
  obtain ⟨d_3, F_3⟩ := D.def_ 3 rfl
  obtain ⟨d_4, F_4⟩ := D.def_ 4 rfl
  obtain ⟨d_5, F_5⟩ := D.def_ 5 rfl
  obtain ⟨d_6, F_6⟩ := D.def_ 6 rfl
  obtain ⟨d_7, F_7⟩ := D.def_ 7 rfl
  obtain ⟨d_8, F_8⟩ := D.def_ 8 rfl
  obtain ⟨d_9, F_9⟩ := D.def_ 9 rfl
  obtain ⟨d_10, F_10⟩ := D.def_ 10 rfl
  obtain ⟨d_11, F_11⟩ := D.def_ 11 rfl
  obtain ⟨d_12, F_12⟩ := D.def_ 12 rfl
  obtain ⟨d_13, F_13⟩ := D.def_ 13 rfl
  obtain ⟨d_14, F_14⟩ := D.def_ 14 rfl
  obtain ⟨d_15, F_15⟩ := D.def_ 15 rfl
  obtain ⟨d_16, F_16⟩ := D.def_ 16 rfl
  obtain ⟨d_17, F_17⟩ := D.def_ 17 rfl
  obtain ⟨d_18, F_18⟩ := D.def_ 18 rfl
  obtain ⟨d_19, F_19⟩ := D.def_ 19 rfl
  obtain ⟨d_20, F_20⟩ := D.def_ 20 rfl
  obtain ⟨d_21, F_21⟩ := D.def_ 21 rfl
  obtain ⟨d_22, F_22⟩ := D.def_ 22 rfl
  obtain ⟨d_23, F_23⟩ := D.def_ 23 rfl
  obtain ⟨d_24, F_24⟩ := D.def_ 24 rfl
  obtain ⟨d_25, F_25⟩ := D.def_ 25 rfl
  obtain ⟨d_26, F_26⟩ := D.def_ 26 rfl
  obtain ⟨d_27, F_27⟩ := D.def_ 27 rfl
  obtain ⟨d_28, F_28⟩ := D.def_ 28 rfl
  obtain ⟨d_29, F_29⟩ := D.def_ 29 rfl
  obtain ⟨d_30, F_30⟩ := D.def_ 30 rfl
  have m0 : ((excB K (He.ga K "NoMeeting") (He.ga K "PaceError") && (kitB1 K (He.ga K "NoMeeting") [((He.ga K "BadCount"), false), ((He.ga K "NoMeeting"), true), ((He.ga K "BadDelay"), false), ((He.ga K "Apart"), false), ((He.ga K "NoRing"), false), ((He.ga K "BadPace"), false)] && (excB K (He.ga K "NoRing") (He.ga K "PaceError") && kitB1 K (He.ga K "NoRing") [((He.ga K "BadCount"), false), ((He.ga K "NoMeeting"), false), ((He.ga K "BadDelay"), false), ((He.ga K "Apart"), false), ((He.ga K "NoRing"), true), ((He.ga K "BadPace"), false)])))) = true := S.more
  obtain ⟨x0, m1⟩ := He.ba m0
  obtain ⟨x1, m2⟩ := He.ba m1
  obtain ⟨x2, m3⟩ := He.ba m2
  have x3 := m3
  exact ⟨{
    n_ValueError := He.free_ok X G (D.fact 35 rfl)
    n_all := He.free_ok X G (D.fact 36 rfl)
    n_bool := He.free_ok X G (D.fact 37 rfl)
    n_enumerate := He.free_ok X G (D.fact 38 rfl)
    n_int := He.free_ok X G (D.fact 39 rfl)
    n_isinstance := He.free_ok X G (D.fact 40 rfl)
    n_len := He.free_ok X G (D.fact 41 rfl)
    n_list := He.free_ok X G (D.fact 42 rfl)
    n_max := He.free_ok X G (D.fact 43 rfl)
    n_min := He.free_ok X G (D.fact 44 rfl)
    n_range := He.free_ok X G (D.fact 45 rfl)
    n_reversed := He.free_ok X G (D.fact 46 rfl)
    n_set := He.free_ok X G (D.fact 47 rfl)
    n_sorted := He.free_ok X G (D.fact 48 rfl)
    n_tuple := He.free_ok X G (D.fact 49 rfl)
    g_MOST_MEETINGS := He.int_ok X G (D.fact 32 rfl)
    g_MOST_WAYS := He.int_ok X G (D.fact 33 rfl)
    g_GREATEST := He.int_ok X G (D.fact 34 rfl)
    a_PaceError := He.ga K "PaceError"
    g_PaceError := He.glo_ok X G (D.fact 24 rfl)
    a_BadCount := He.ga K "BadCount"
    g_BadCount := He.glo_ok X G (D.fact 25 rfl)
    a_NoMeeting := He.ga K "NoMeeting"
    g_NoMeeting := He.glo_ok X G (D.fact 26 rfl)
    a_BadDelay := He.ga K "BadDelay"
    g_BadDelay := He.glo_ok X G (D.fact 27 rfl)
    a_Apart := He.ga K "Apart"
    g_Apart := He.glo_ok X G (D.fact 28 rfl)
    a_NoRing := He.ga K "NoRing"
    g_NoRing := He.glo_ok X G (D.fact 29 rfl)
    a_BadPace := He.ga K "BadPace"
    g_BadPace := He.glo_ok X G (D.fact 30 rfl)
    a_Web := He.ga K "Web"
    g_Web := He.glo_ok X G (D.fact 31 rfl)
    a_lowest := He.ga K "lowest"
    d_lowest := d_0
    F_lowest := F_0
    b_lowest := (FunD.bindsN F_0 fun _ _ _ _ _ _ us hl => match us, hl with | [_, _], _ => rfl)
    g_lowest := He.glo_ok X G (D.fact 0 rfl)
    a_mean := He.ga K "mean"
    d_mean := d_1
    F_mean := F_1
    b_mean := (FunD.bindsN F_1 fun _ _ _ _ _ _ us hl => match us, hl with | [_, _], _ => rfl)
    g_mean := He.glo_ok X G (D.fact 1 rfl)
    a_rounds := He.ga K "rounds"
    d_rounds := d_2
    F_rounds := F_2
    b_rounds := (FunD.bindsN F_2 fun _ _ _ _ _ _ us hl => match us, hl with | [_, _, _], _ => rfl)
    g_rounds := He.glo_ok X G (D.fact 2 rfl)
    a_step_back := He.ga K "step_back"
    d_step_back := d_3
    F_step_back := F_3
    b_step_back := (FunD.bindsN F_3 fun _ _ _ _ _ _ us hl => match us, hl with | [_, _, _, _, _, _], _ => rfl)
    g_step_back := He.glo_ok X G (D.fact 3 rfl)
    a_ring_of := He.ga K "ring_of"
    d_ring_of := d_4
    F_ring_of := F_4
    b_ring_of := (FunD.bindsN F_4 fun _ _ _ _ _ _ us hl => match us, hl with | [_], _ => rfl)
    g_ring_of := He.glo_ok X G (D.fact 4 rfl)
    a_slower := He.ga K "slower"
    d_slower := d_5
    F_slower := F_5
    b_slower := (FunD.bindsN F_5 fun _ _ _ _ _ _ us hl => match us, hl with | [_, _, _], _ => rfl)
    g_slower := He.glo_ok X G (D.fact 5 rfl)
    a_first_ring := He.ga K "first_ring"
    d_first_ring := d_6
    F_first_ring := F_6
    b_first_ring := (FunD.bindsN F_6 fun _ _ _ _ _ _ us hl => match us, hl with | [_], _ => rfl)
    g_first_ring := He.glo_ok X G (D.fact 6 rfl)
    a_pace := He.ga K "pace"
    d_pace := d_7
    F_pace := F_7
    b_pace := (FunD.bindsN F_7 fun _ _ _ _ _ _ us hl => match us, hl with | [_], _ => rfl)
    g_pace := He.glo_ok X G (D.fact 7 rfl)
    a_shape := He.ga K "shape"
    d_shape := d_8
    F_shape := F_8
    b_shape := (FunD.bindsN F_8 fun _ _ _ _ _ _ us hl => match us, hl with | [_], _ => rfl)
    g_shape := He.glo_ok X G (D.fact 8 rfl)
    a_settled := He.ga K "settled"
    d_settled := d_9
    F_settled := F_9
    b_settled := (FunD.bindsN F_9 fun _ _ _ _ _ _ us hl => match us, hl with | [_, _, _], _ => rfl)
    g_settled := He.glo_ok X G (D.fact 9 rfl)
    a_come_to := He.ga K "come_to"
    d_come_to := d_10
    F_come_to := F_10
    b_come_to := (FunD.bindsN F_10 fun _ _ _ _ _ _ us hl => match us, hl with | [_, _], _ => rfl)
    g_come_to := He.glo_ok X G (D.fact 10 rfl)
    a_Web_init := He.ma K (He.ga K "Web") "__init__"
    d_Web_init := d_11
    F_Web_init := F_11
    b_Web_init := (FunD.bindsN F_11 fun _ _ _ _ _ _ us hl => match us, hl with | [_, _, _], _ => rfl)
    a_Web_need_meeting := He.ma K (He.ga K "Web") "need_meeting"
    d_Web_need_meeting := d_12
    F_Web_need_meeting := F_12
    b_Web_need_meeting := (FunD.bindsN F_12 fun _ _ _ _ _ _ us hl => match us, hl with | [_, _], _ => rfl)
    m_Web_need_meeting := He.meth_ok (D.fact 55 rfl)
    a_Web_into := He.ma K (He.ga K "Web") "into"
    d_Web_into := d_13
    F_Web_into := F_13
    b_Web_into := (FunD.bindsN F_13 fun _ _ _ _ _ _ us hl => match us, hl with | [_, _], _ => rfl)
    m_Web_into := He.meth_ok (D.fact 56 rfl)
    a_Web_delay := He.ma K (He.ga K "Web") "delay"
    d_Web_delay := d_14
    F_Web_delay := F_14
    b_Web_delay := (FunD.bindsN F_14 fun _ _ _ _ _ _ us hl => match us, hl with | [_, _, _], _ => rfl)
    m_Web_delay := He.meth_ok (D.fact 57 rfl)
    a_Web_ahead := He.ma K (He.ga K "Web") "ahead"
    d_Web_ahead := d_15
    F_Web_ahead := F_15
    b_Web_ahead := (FunD.bindsN F_15 fun _ _ _ _ _ _ us hl => match us, hl with | [_, _], _ => rfl)
    m_Web_ahead := He.meth_ok (D.fact 58 rfl)
    a_Web_turns := He.ma K (He.ga K "Web") "turns"
    d_Web_turns := d_16
    F_Web_turns := F_16
    b_Web_turns := (FunD.bindsN F_16 fun _ _ _ _ _ _ us hl => match us, hl with | [_, _, _], _ => rfl)
    m_Web_turns := He.meth_ok (D.fact 59 rfl)
    a_Web_turned := He.ma K (He.ga K "Web") "turned"
    d_Web_turned := d_17
    F_Web_turned := F_17
    b_Web_turned := (FunD.bindsN F_17 fun _ _ _ _ _ _ us hl => match us, hl with | [_], _ => rfl)
    m_Web_turned := He.meth_ok (D.fact 60 rfl)
    a_law_cell_at := He.ga K "_law_cell_at"
    d_law_cell_at := d_18
    F_law_cell_at := F_18
    b_law_cell_at := (FunD.bindsN F_18 fun _ _ _ _ _ _ us hl => match us, hl with | [_, _], _ => rfl)
    g_law_cell_at := He.glo_ok X G (D.fact 11 rfl)
    a_law_whole := He.ga K "_law_whole"
    d_law_whole := d_19
    F_law_whole := F_19
    b_law_whole := (FunD.bindsN F_19 fun _ _ _ _ _ _ us hl => match us, hl with | [_], _ => rfl)
    g_law_whole := He.glo_ok X G (D.fact 12 rfl)
    a_law_mixed := He.ga K "_law_mixed"
    d_law_mixed := d_20
    F_law_mixed := F_20
    b_law_mixed := (FunD.bindsN F_20 fun _ _ _ _ _ _ us hl => match us, hl with | [_, _], _ => rfl)
    g_law_mixed := He.glo_ok X G (D.fact 13 rfl)
    a_law_delay_by := He.ga K "_law_delay_by"
    d_law_delay_by := d_21
    F_law_delay_by := F_21
    b_law_delay_by := (FunD.bindsN F_21 fun _ _ _ _ _ _ us hl => match us, hl with | [_], _ => rfl)
    g_law_delay_by := He.glo_ok X G (D.fact 14 rfl)
    a_law_many := He.ga K "_law_many"
    d_law_many := d_22
    F_law_many := F_22
    b_law_many := (FunD.bindsN F_22 fun _ _ _ _ _ _ us hl => match us, hl with | [_], _ => rfl)
    g_law_many := He.glo_ok X G (D.fact 15 rfl)
    a_law_ways := He.ga K "_law_ways"
    d_law_ways := d_23
    F_law_ways := F_23
    b_law_ways := (FunD.bindsN F_23 fun _ _ _ _ _ _ us hl => match us, hl with | [_, _], _ => rfl)
    g_law_ways := He.glo_ok X G (D.fact 16 rfl)
    a_law_list := He.ga K "_law_list"
    d_law_list := d_24
    F_law_list := F_24
    b_law_list := (FunD.bindsN F_24 fun _ _ _ _ _ _ us hl => match us, hl with | [_, _, _], _ => rfl)
    g_law_list := He.glo_ok X G (D.fact 17 rfl)
    a_law_common := He.ga K "_law_common"
    d_law_common := d_25
    F_law_common := F_25
    b_law_common := (FunD.bindsN F_25 fun _ _ _ _ _ _ us hl => match us, hl with | [_, _], _ => rfl)
    g_law_common := He.glo_ok X G (D.fact 18 rfl)
    a_law_due := He.ga K "_law_due"
    d_law_due := d_26
    F_law_due := F_26
    b_law_due := (FunD.bindsN F_26 fun _ _ _ _ _ _ us hl => match us, hl with | [_, _, _], _ => rfl)
    g_law_due := He.glo_ok X G (D.fact 19 rfl)
    a_law_words := He.ga K "_law_words"
    d_law_words := d_27
    F_law_words := F_27
    b_law_words := (FunD.bindsN F_27 fun _ _ _ _ _ _ us hl => match us, hl with | [_], _ => rfl)
    g_law_words := He.glo_ok X G (D.fact 20 rfl)
    a_law_told := He.ga K "_law_told"
    d_law_told := d_28
    F_law_told := F_28
    b_law_told := (FunD.bindsN F_28 fun _ _ _ _ _ _ us hl => match us, hl with | [_, _], _ => rfl)
    g_law_told := He.glo_ok X G (D.fact 21 rfl)
    a_law_stirred := He.ga K "_law_stirred"
    d_law_stirred := d_29
    F_law_stirred := F_29
    b_law_stirred := (FunD.bindsN F_29 fun _ _ _ _ _ _ us hl => match us, hl with | [_, _, _], _ => rfl)
    g_law_stirred := He.glo_ok X G (D.fact 22 rfl)
    a_law := He.ga K "law"
    d_law := d_30
    F_law := F_30
    b_law := (FunD.bindsN F_30 fun _ _ _ _ _ _ us hl => match us, hl with | [_], _ => rfl)
    g_law := He.glo_ok X G (D.fact 23 rfl)
    c_lw := (He.cT K ("_law_ways", none)).1
    P_lw := (He.cT K ("_law_ways", none)).2
    code_lw := code_of (p := ("_law_ways", none)) F_23
    cl_Web := He.cls_ok (D.fact 50 rfl)
    M_Web := He.mkr_ok (D.fact 51 rfl)
    na_many := He.noat_ok (D.fact 52 rfl)
    na_ways := He.noat_ok (D.fact 53 rfl)
    na_inner := He.noat_ok (D.fact 54 rfl)
    X_NoMeeting := excB_ok x0
    kit_NoMeeting := kitB_ok x1
    X_NoRing := excB_ok x2
    kit_NoRing := kitB_ok x3 }, rfl, rfl, rfl⟩

theorem law_at {w : World} {h : Heap} {K : PySem.W.Frag} {mg : Str → Option Value} (T : Txt K mg) (S : He.SaysX fa fn [] tf ex w h K) (KX : K.In h) (ec : T.c_lw = (He.cT K ("_law_ways", none)).1) (eP : T.P_lw = (He.cT K ("_law_ways", none)).2) :
    LamX.LawAtS PySem.Challenge.rw_meanpace_k06_a_ring_and_its_mean w K L2.CX0 7 63 "_law_script" mg T.a_law h := by
  have hm : (("_law_ways", none) : He.Defn) ∈ tf := List.mem_cons_self
  refine ⟨T.d_law, [(T.c_lw, T.P_lw)], sp_law K T.P_lw, fun p hp => ?_, fun p hp => ?_, fun p hp => ?_, ?_, fun H a ns hl hbits hH hS => ⟨a, ns, rfl, hS, fun p hp => ?_, fun _ => rfl⟩, fun base hK hG hB => ok_law T (hB _ List.mem_cons_self)⟩
  · rw [List.mem_singleton.mp hp]
    show h.get? T.P_lw = _
    rw [eP]
    exact S.empty _ hm
  · rw [List.mem_singleton.mp hp]
    show K.lookup T.P_lw = _
    rw [eP]
    exact S.out _ hm
  · rw [List.mem_singleton.mp hp]
    show PySem.W.CodeHd h T.c_lw T.P_lw
    rw [eP, ec]
    exact PySem.W.codeHd_of_K KX (S.hd _ hm)
  · have b := FunD.bindsA (ps := ["_law_script"]) T.F_law fun _ _ _ _ _ _ us hl => match us, hl with | [_], _ => rfl
    exact fun s v => b s [v] rfl
  · rw [List.mem_singleton.mp hp]
    exact LamX.TabS.nil (hH _ List.mem_cons_self)
end MP
open PySem PySem.W PySem.Calls PyProof.Rows
theorem PySem.Challenge.cw_meanpace_k06_a_ring_and_its_mean_holds : PySem.Challenge.rw_meanpace_k06_a_ring_and_its_mean.Holds := by
  w_on; o_law
  refine HandSHeadRun.head_any (r := OpenLaw.row PySem.Challenge.rw_meanpace_k06_a_ring_and_its_mean) (q := view (OpenLaw.row PySem.Challenge.rw_meanpace_k06_a_ring_and_its_mean).prog [40]) (H := MP.hk) (ob := MP.ob) (M := MP.steps) (loose := MP.names) (d := HandSHeadRun.topDef (OpenLaw.row PySem.Challenge.rw_meanpace_k06_a_ring_and_its_mean).prog 40) (kwd := []) MP.ob_eq
    (by kernel_rfl) (fun s => by kernel_rfl) MP.run (by kernel_rfl) (by kernel_rfl) (by kernel_rfl) (by rfl) (by first | assumption | decide +kernel) (by decide +kernel) ⟨rfl, rfl, rfl, rfl, rfl, by decide +kernel⟩ ?hw ?hc
  case hw => w_witness2
  case hc =>
    refine LamX.walk_ofTsE (l := PySem.Challenge.rw_meanpace_k06_a_ring_and_its_mean) (n := 63) (k := 7) (x := "_law_script") (CX := fun _ => L2.CX0) rfl (by decide) (by kernel_rfl) ⟨rfl, by decide, by decide⟩ ?F (fun _ _ _ _ _ z => z)
    intro w mg fa h Y G hmg0
    obtain ⟨K, KX, S⟩ := Y
    have hmg : mg ("law" : PySem.Str) = some (.ref fa) := by
      have e : (HandSHeadRun.topDef (OpenLaw.row PySem.Challenge.rw_meanpace_k06_a_ring_and_its_mean).prog 40).name = ("law" : PySem.Str) := by kernel_rfl
      rw [← e]
      exact hmg0
    obtain ⟨T, _, ec, eP⟩ := MP.txt_of KX G S
    have ea := hmg.symm.trans T.g_law
    cases ea
    exact ⟨K, KX, MP.law_at T S KX ec eP⟩
#print axioms PySem.Challenge.cw_meanpace_k06_a_ring_and_its_mean_holds
