/- A slice that a call has made, as a value; slices.Clone of numbers. -/
import Derived.Test.YthogpkmidffdeaaDoorFlat
import Derived.Test.YthogpkmidffdeaaDoorAmLaw
import Derived.Test.YthogpkmidffdeaaDoorAmErr
namespace Go.Proofs.YthogpkmidffdeaaDoor
set_option linter.unusedVariables false
set_option linter.unusedSimpArgs false
open Go.RowKit
/-- a row of a call's own, which nobody writes any more -/
theorem VRep.owned {α : Type} {enc : α → List Value} {av : α → AV} {z : Nat} (hz : ∀ x, (enc x).length = z) (hc : ∀ x, (av x).cells = (enc x).map cAV) {β : List Hd} {w : World} {B : Nat} {e : TypeId} {v : Value} {xs : List α} (h : w.ownsRow B e z v xs.length (xs.flatMap enc)) (hβ : ∀ y, y ∈ β → ∀ b, b ∈ y.blks → b < B) : VRep β w v (.sl (xs.map av)) := by
  obtain ⟨a, cap, rfl, h1, h2, hr⟩ := Reads.of_owns hz rfl h
  cases a with
  | none =>
    rcases h.2 with ⟨e1, e2⟩ | ⟨g, cap', cur, e1, _⟩
    · have : xs = [] := List.length_eq_zero_iff.1 e2
      subst this
      cases e1; exact .slnil
    · cases e1
  | some x =>
    obtain ⟨b, off, sp⟩ := x
    rcases h.2 with ⟨e1, _⟩ | ⟨g, cap', cur, e1, hB, hg, _⟩
    · cases e1
    · cases e1
      have hget : ∀ (i j : Nat) (x y : AV), (xs.map av)[i]? = some x → x.cells[j]? = some y → ∃ u, w.cell? ⟨b, 0 + i * z + j, none⟩ = some u ∧ y = cAV u := by
        intro i j x y h3 h4
        rw [List.getElem?_map, Option.map_eq_some_iff] at h3
        obtain ⟨x', h3, rfl⟩ := h3
        obtain ⟨hi, rfl⟩ := List.getElem?_eq_some_iff.1 h3
        rw [hc, List.getElem?_map, Option.map_eq_some_iff] at h4
        obtain ⟨u, h4, rfl⟩ := h4
        obtain ⟨hj, h5⟩ := List.getElem?_eq_some_iff.1 h4
        obtain ⟨b', off', e1, e2, e3⟩ := hr i hi
        cases e1
        exact ⟨u, by rw [e3 j (by rw [← hz]; exact hj)]; exact h4, rfl⟩
      have h := VRep.sl (β := β) (w := w) b 0 cap z (xs.map av) (by simpa using h1) h2 (Array.getElem?_eq_some_iff.1 hg).1 (fun y hy hm => by have := hβ y hy _ hm; omega) (fun x hx => by
          obtain ⟨y, _, rfl⟩ := List.mem_map.1 hx
          rw [hc, List.length_map, hz])
        (fun i j x y h3 h4 => by obtain ⟨u, h5, _⟩ := hget i j x y h3 h4; exact ⟨u, h5⟩)
        (fun i j x y u h3 h4 h5 => by
          obtain ⟨u', h6, rfl⟩ := hget i j x y h3 h4
          rw [h5] at h6; cases h6; exact cAV_rep _ _ _)
      rw [List.length_map] at h
      exact h
theorem cAV_noH (m : Nat) (v : Value) : NoH m (cAV v) := by
  unfold cAV; split <;> first | exact .int _ _ | exact .bool _ | exact .str _ | exact .raw _ | exact .sl _ (fun x hx => by cases hx)
theorem FnP.of_owns {α : Type} (enc : α → List Value) (av : α → AV) (z : Nat) (hz : ∀ x, (enc x).length = z) (hc : ∀ x, (av x).cells = (enc x).map cAV) (hp : ∀ x u, u ∈ enc x → plainV u = true) {P : Program} {F : FuncId} {e : TypeId} (xs : List α)
    (h : ∀ (w : World) (a : Option Addr) (cap : Nat), Reads enc z w a xs → xs.length ≤ cap → cap ≤ maxLen → (a = none → cap = 0) → Calls P F #[.slice a xs.length cap] w fun e' w' => ∃ v, e' = .returned v ∧ w'.ownsRow w.heap.size e z v xs.length (xs.flatMap enc) ∧ Below w.heap.size w w') :
    FnP P F [.sl (xs.map av)] (.sl (xs.map av)) := by
  refine ⟨.sl _ fun x hx y hy => ?_, fun k w β vs hH hv => ?_⟩
  · obtain ⟨x', _, rfl⟩ := List.mem_map.1 hx
    rw [hc] at hy
    obtain ⟨u, _, rfl⟩ := List.mem_map.1 hy
    exact cAV_noH _ _
  · obtain ⟨v0, rfl, h0⟩ := VReps.single hv
    obtain ⟨a, cap, rfl, h1, h2, h3, h4⟩ := sl_reads hz hc hp h0
    refine (h w a cap h4 h1 h2 h3).mono ?_
    rintro e' w' ⟨v, rfl, ho, hb⟩
    exact ⟨v, β, rfl, Ext.of_below β hb, hH.below hb, VRep.owned hz hc ho (fun y hy b hm => by
      obtain ⟨j, hj, rfl⟩ := List.mem_iff_getElem.1 hy
      exact hH.lt (List.getElem?_eq_getElem hj) hm)⟩
end Go.Proofs.YthogpkmidffdeaaDoor
