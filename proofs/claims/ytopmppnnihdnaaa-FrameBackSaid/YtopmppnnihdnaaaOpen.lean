/- How an argument reads: slices of whatever elements, as lists. -/
import Derived.Test.YtopmppnnihdnaaaBase
import Derived.ChangeOld
import Derived.DataReads
import Derived.ChangeArms
namespace Go.Proofs.Ytopmppnnihdnaaa
set_option linter.unusedVariables false
set_option linter.unusedSimpArgs false
open Go.ChangeShapes Go.WideShapes Go.ChangeAt Go.RowKit
set_option maxRecDepth 100000
theorem exists_list {α : Type} {Q : Nat → α → Prop} (n : Nat) (h : ∀ i, i < n → ∃ x, Q i x) : ∃ l : List α, l.length = n ∧ ∀ i, (hi : i < l.length) → Q i l[i] := by
  induction n with
  | zero => exact ⟨[], rfl, fun i hi => absurd hi (Nat.not_lt_zero i)⟩
  | succ n ih =>
    obtain ⟨l, hl, hq⟩ := ih fun i hi => h i (by omega)
    obtain ⟨x, hx⟩ := h n (by omega)
    refine ⟨l ++ [x], by simp [hl], fun i hi => ?_⟩
    by_cases e : i < l.length
    · rw [List.getElem_append_left e]; exact hq i e
    · obtain rfl : i = l.length := by simp at hi; omega
      rw [List.getElem_append_right (Nat.le_refl _)]
      simpa [hl] using hx
theorem open_rows' {α : Type} (enc : α → List Value) (good : α → Prop) (sz : Nat) (hsz : 0 < sz) {H : Type} {encH : TypeId × Value → H} {W : World} {b0 bb : Nat} {spare : Nat → Bool} {held : Bool} {t e : TypeId} {v : Value} {d : DataW H} {p : List MemPlace} {r : Reach}
    (ht : Try.prog.underlying t = some (.slice e)) (hc : Try.prog.cellsOf e = sz)
    (hel : ∀ (m : Nat) (cs : List Value) (y : DataW H × List MemPlace), cs.length = sz → DataW.trod encH Try.prog W bb spare held m e cs = some y → ∃ x, cs = enc x ∧ good x)
    (hv : Value.okWide Try.prog W r b0 t v) (h : DataW.Trod encH Try.prog W bb spare held t v d p) :
    ∃ a cap, ∃ xs : List α, v = .slice a xs.length cap ∧ xs.length ≤ cap ∧ cap ≤ maxLen ∧ Reads enc sz W a xs ∧ (∀ x, x ∈ xs → good x) ∧ (a = none → cap = 0) := by
  obtain ⟨ao, len, cap, rfl⟩ := okWide_slice ht hv
  obtain ⟨fuel, hf⟩ := h
  rcases DataW.trod_slice ht hf with ⟨hcs, _⟩ | ⟨x, l, c, elems, rest, n, _, hcs, _, _, hl, hm, hlen, hgot, _, _⟩
  · simp [Value.cells] at hcs
    obtain ⟨rfl, rfl, rfl⟩ := hcs
    exact ⟨none, 0, [], rfl, Nat.le_refl _, Nat.zero_le _, Reads.nil _ _ _ _, (fun x hx => by cases hx), fun _ => rfl⟩
  · simp [Value.cells] at hcs
    obtain ⟨rfl, rfl, rfl⟩ := hcs
    have each : ∀ i, i < len → ∃ y : α, good y ∧ W.cells? bb (x.add (i * sz)) sz = some (enc y) := by
      intro i hi
      have h1 := hgot i hi
      rw [hc, List.getElem?_eq_getElem (by omega), Option.bind_eq_some_iff] at h1
      obtain ⟨cs, h2, h3⟩ := h1
      obtain ⟨y, rfl, hy⟩ := hel n cs _ (World.cells?_some h2).2.1 h3
      exact ⟨y, hy, h2⟩
    obtain ⟨xs, hxl, hxs⟩ := exists_list len each
    refine ⟨some x, cap, xs, by rw [hxl], by omega, hm, fun i hi => ?_, fun y hy => ?_, fun h => by cases h⟩
    · obtain ⟨_, h2⟩ := hxs i hi
      obtain ⟨_, hl2, hcell⟩ := World.cells?_some h2
      have hfirst : ∃ u, W.cell? x = some u := by
        obtain ⟨_, g2⟩ := hxs 0 (by omega)
        obtain ⟨_, gl, gcell⟩ := World.cells?_some g2
        have g3 := gcell 0 hsz
        rw [List.getElem?_eq_getElem (by omega)] at g3
        have e : (x.add (0 * sz)).add 0 = x := by simp [Addr.add]
        rw [e] at g3
        exact ⟨_, g3⟩
      obtain ⟨u0, hu0⟩ := hfirst
      have hs1 := World.cell?_spot hu0
      obtain ⟨b, off, spot⟩ := x
      simp only at hs1
      subst hs1
      have hb := World.block_lt_of_cell? W _ hu0
      refine ⟨b, off, rfl, hb, fun j hj => ?_⟩
      have h3 := hcell j hj
      rw [addr_add, addr_add] at h3
      exact h3
    · obtain ⟨i, hi, rfl⟩ := List.getElem_of_mem hy
      exact (hxs i hi).1
theorem open_rows {α : Type} (enc : α → List Value) (good : α → Prop) (sz : Nat) (hsz : 0 < sz) {H : Type} {encH : TypeId × Value → H} {W : World} {b0 bb : Nat} {spare : Nat → Bool} {held : Bool} {t e : TypeId} {v : Value} {d : DataW H} {p : List MemPlace} {r : Reach}
    (ht : Try.prog.underlying t = some (.slice e)) (hc : Try.prog.cellsOf e = sz)
    (hel : ∀ (m : Nat) (cs : List Value) (y : DataW H × List MemPlace), cs.length = sz → DataW.trod encH Try.prog W bb spare held m e cs = some y → ∃ x, cs = enc x ∧ good x)
    (hv : Value.okWide Try.prog W r b0 t v) (h : DataW.Trod encH Try.prog W bb spare held t v d p) :
    ∃ a cap, ∃ xs : List α, v = .slice a xs.length cap ∧ xs.length ≤ cap ∧ cap ≤ maxLen ∧ Reads enc sz W a xs ∧ ∀ x, x ∈ xs → good x := by
  obtain ⟨a, cap, xs, h1, h2, h3, h4, h5, _⟩ := open_rows' enc good sz hsz ht hc hel hv h
  exact ⟨a, cap, xs, h1, h2, h3, h4, h5⟩
def fit1 (x : Int) : Prop := -9223372036854775808 ≤ x ∧ x ≤ 9223372036854775807
theorem elem_int {H : Type} {encH : TypeId × Value → H} {W : World} {bb : Nat} {spare : Nat → Bool} {held : Bool} (m : Nat) (cs : List Value) (y : DataW H × List MemPlace) (_ : cs.length = 1)
    (h : DataW.trod encH Try.prog W bb spare held m 3 cs = some y) : ∃ x, cs = encI x ∧ fit1 x := by
  obtain ⟨n, rfl, _, hw⟩ := DataW.trod_int Try.underlying3 h
  exact ⟨n, rfl, wf64 hw⟩
end Go.Proofs.Ytopmppnnihdnaaa
