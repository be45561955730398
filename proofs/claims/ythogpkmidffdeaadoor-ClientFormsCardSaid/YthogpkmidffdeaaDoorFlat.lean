/- A row of records as one list of cells; what a literal's row reads as. -/
import Derived.Test.YthogpkmidffdeaaDoorBase
import Derived.Laws.AppendOwnNone
namespace Go.Proofs.YthogpkmidffdeaaDoor
set_option linter.unusedVariables false
set_option linter.unusedSimpArgs false
open Go.ChangeShapes Go.WideShapes Go.ChangeAt Go.RowKit
theorem flat_len {α : Type} (enc : α → List Value) (sz : Nat) (hz : ∀ x, (enc x).length = sz) (xs : List α) : (xs.flatMap enc).length = xs.length * sz := by
  induction xs with
  | nil => simp
  | cons x xs ih => rw [List.flatMap_cons, List.length_append, ih, hz, List.length_cons, Nat.add_mul]; omega
/-- what a slice that reads as a list holds, cell by cell -/
theorem Reads.flat {α : Type} {enc : α → List Value} {sz : Nat} (hsz : 0 < sz) (hz : ∀ x, (enc x).length = sz) {w : World} {ad : Addr} {xs : List α} (h : Reads enc sz w (some ad) xs) :
    ∀ j u, (xs.flatMap enc)[j]? = some u → ad.block < w.heap.size ∧ w.cell? (ad.add j) = some u := by
  intro j u hu
  have hj : j < xs.length * sz := by
    have := (List.getElem?_eq_some_iff.1 hu).1
    rwa [flat_len enc sz hz] at this
  have hi : j / sz < xs.length := (Nat.div_lt_iff_lt_mul hsz).2 hj
  obtain ⟨b, off, ha, hb, hc⟩ := h (j / sz) hi
  simp only [Option.some.injEq] at ha
  subst ha
  have hr := hc (j % sz) (Nat.mod_lt _ hsz)
  rw [← flat_get enc sz hz xs (j / sz) hi (j % sz) (Nat.mod_lt _ hsz)] at hr
  have e : j / sz * sz + j % sz = j := by rw [Nat.mul_comm]; exact Nat.div_add_mod j sz
  rw [Nat.add_assoc, e] at hr
  exact ⟨hb, by rw [addr_add]; exact hr.trans hu⟩
theorem reads_lit {α : Type} (enc : α → List Value) (sz : Nat) (hz : ∀ x, (enc x).length = sz) (w : World) (T : TypeId) (xs : List α) (cs : Array Value) (h : cs.toList = xs.flatMap enc) : Reads enc sz (w.alloc (.cells cs T)) (some ⟨w.heap.size, 0, none⟩) xs := by
  intro i hi
  refine ⟨w.heap.size, 0, rfl, by simp, fun j hj => ?_⟩
  rw [Nat.zero_add, World.cell?_alloc_new, ← Array.getElem?_toList, h]
  exact flat_get enc sz hz xs i hi j hj
/-- append of a slice that may be nil, to a row of the call's own -/
theorem wpList_append_src {α : Type} (enc : α → List Value) (size : Nat) (hz : ∀ x, (enc x).length = size) (h1c : ∀ x, ∀ u ∈ enc x, u.oneCell' = true) {P : Program} {w : World} {ops : Array Oper} {rest : List Oper} {o : Oper} {a : Act} {Q : Exit → Act → World → Prop} (hgd : o.guard = none) (s x : Operand) (t : TypeId)
    (ho : o.op = .call { callee := .builtin .append, args := #[s, x], argTypes := #[t, t] })
    (base : Nat) (e : TypeId) (i : TypeInfo) (z : Value) (bytes : Nat) (ht : P.underlying t = some (.slice e)) (hi : P.info? e = some i) (hzr : i.zero = some z)
    (hsize : i.size = size) (hby : i.bytes = bytes) (hzs : z.cells.size = size) (hsz : 0 < size)
    (v : Value) (n : Nat) (ys : List Value) (hs : a.eval s = v) (hown : w.ownsRow base e size v n ys)
    (ad : Option Addr) (c : Nat) (xs : List α) (hx : a.eval x = .slice ad xs.length c) (hnil : ad = none → c = 0) (hr : Reads enc size w ad xs)
    (h63 : n + xs.length ≤ maxLen) (hbytes : (n + xs.length) * bytes ≤ 140737488355328) (hbase : base ≤ w.heap.size)
    (h : ∀ v' w', w'.ownsRow base e size v' (n + xs.length) (ys ++ xs.flatMap enc) → w.grownBy w' v.ownBlock → wpList P ops Q rest (a.put o.dst v') w') : wpList P ops Q (o :: rest) a w := by
  cases ad with
  | none =>
    have hc := hnil rfl
    subst hc
    have he : xs = [] := by
      cases xs with
      | nil => rfl
      | cons y l => obtain ⟨_, _, h, _⟩ := hr 0 (by simp); cases h
    subst he
    refine wpList_append_own_none hgd s x t ho base e i size ht hi v n ys hs hown hx (h v w (by simpa using hown) ⟨rfl, rfl, rfl, Nat.le_refl _, fun _ _ _ => rfl⟩)
  | some ad =>
    refine wpList_append_own w hgd s x t ho base e i z size bytes ht hi hzr hsize hby hzs hsz v n ys hs hown ad xs.length c (xs.flatMap enc) hx (flat_len enc size hz xs) (fun j u hu => (hr.flat hsz hz j u hu).2) ?_ h63 hbytes hbase (fun v' w' h2 h3 _ => h v' w' h2 h3)
    intro u hu
    obtain ⟨y, _, hy⟩ := List.mem_flatMap.1 hu
    exact h1c y u hy
end Go.Proofs.YthogpkmidffdeaaDoor
