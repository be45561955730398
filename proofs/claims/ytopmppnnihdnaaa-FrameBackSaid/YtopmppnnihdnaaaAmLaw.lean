/- The abstract machine: a law's contract, as the statement's frame asks for it. -/
import Derived.Test.YtopmppnnihdnaaaAmLib
import Derived.WideShapes
namespace Go.Proofs.Ytopmppnnihdnaaa
set_option linter.unusedVariables false
set_option linter.unusedSimpArgs false
open Go.RowKit Go.WideShapes
inductive AllRep (β : List Hd) (w : World) : List Value → List AV → Prop where
  | nil : AllRep β w [] []
  | cons {v : Value} {x : AV} {vs : List Value} {xs : List AV} (h : VRep β w v x) (t : AllRep β w vs xs) : AllRep β w (v :: vs) (x :: xs)
theorem AllRep.reps {β : List Hd} {w : World} : ∀ {vs : List Value} {xs : List AV}, AllRep β w vs xs → VReps β w vs.toArray xs := by
  intro vs
  induction vs with
  | nil => intro xs h; cases h; exact ⟨rfl, fun j u x h => by simp at h⟩
  | cons v vs ih =>
    intro xs h
    cases h with
    | cons h t =>
      obtain ⟨h1, h2⟩ := ih t
      refine ⟨by simpa using h1, fun j u x k1 k2 => ?_⟩
      cases j with
      | zero => simp at k1 k2; subst k1 k2; exact h
      | succ j => exact h2 j u x (by simpa using k1) (by simpa using k2)
theorem law_of_fn {P : Program} {F : FuncId} {args : List AV} (h : FnP P F args (.bool true)) {w : World} (hg : GOk [] w) {vs : List Value} (hv : AllRep [] w vs args) : Calls P F vs.toArray w fun e w' => e = .returned (.bool true) ∧ Below w.heap.size w w' := by
  refine (pure_call h (HRel.nil w hg) hv.reps).mono ?_
  rintro e w' ⟨v, rfl, hb, hr⟩
  obtain rfl := hr.bool_inv
  exact ⟨rfl, hb⟩
theorem okWide_addr {P : Program} {w : World} {r : Reach} {base : Nat} {t e : TypeId} {a : Option Addr} {len cap : Nat} (ht : P.underlying t = some (.slice e)) (h : Value.okWide P w r base t (.slice a len cap)) : ∀ x, a = some x → x.spot = none ∧ x.block < w.heap.size := by
  rintro x rfl
  simp only [Value.okWide, ht, Cell.okWide, Cell.ok] at h
  obtain ⟨_, _, h⟩ := h
  obtain ⟨_, h1, row, cells, h2, _⟩ := h
  refine ⟨h1, ?_⟩
  unfold World.shape? at h2
  cases hb : w.heap[x.block]? with
  | none => rw [hb] at h2; cases h2
  | some o => exact (Array.getElem?_eq_some_iff.1 hb).1
theorem vrep_rows {α : Type} {enc : α → List Value} {av : α → AV} {z : Nat} (hz : ∀ x, (enc x).length = z) (hc : ∀ x, (av x).cells = (enc x).map cAV) {w : World} {a : Option Addr} {cap : Nat} {xs : List α} (hr : Reads enc z w a xs) (hb : xs.length ≤ cap ∧ cap ≤ maxLen) (hn : a = none → cap = 0)
    (ha : ∀ x, a = some x → x.spot = none ∧ x.block < w.heap.size) : VRep [] w (.slice a xs.length cap) (.sl (xs.map av)) := by
  cases a with
  | none =>
    have h0 := hn rfl
    have : xs = [] := List.length_eq_zero_iff.1 (by omega)
    subst this; subst h0; exact .slnil
  | some x =>
    obtain ⟨b, off, sp⟩ := x
    obtain ⟨h1, h2⟩ := ha _ rfl
    obtain rfl : sp = none := h1
    have hget : ∀ (i j : Nat) (x y : AV), (xs.map av)[i]? = some x → x.cells[j]? = some y → ∃ u, w.cell? ⟨b, off + i * z + j, none⟩ = some u ∧ y = cAV u := by
      intro i j x y h3 h4
      rw [List.getElem?_map, Option.map_eq_some_iff] at h3
      obtain ⟨x', h3, rfl⟩ := h3
      obtain ⟨hi, rfl⟩ := List.getElem?_eq_some_iff.1 h3
      rw [hc, List.getElem?_map, Option.map_eq_some_iff] at h4
      obtain ⟨u, h4, rfl⟩ := h4
      obtain ⟨hj, h5⟩ := List.getElem?_eq_some_iff.1 h4
      obtain ⟨b', off', e1, e2, e3⟩ := hr i hi
      cases e1
      exact ⟨u, by rw [e3 j (by rw [← hz]; exact hj)]; exact h4, rfl⟩
    have h := VRep.sl (β := []) (w := w) b off cap z (xs.map av) (by simpa using hb.1) hb.2 h2 (fun h hh => by cases hh) (fun x hx => by
        obtain ⟨y, _, rfl⟩ := List.mem_map.1 hx
        rw [hc, List.length_map, hz])
      (fun i j x y h3 h4 => by obtain ⟨u, h5, _⟩ := hget i j x y h3 h4; exact ⟨u, h5⟩)
      (fun i j x y u h3 h4 h5 => by
        obtain ⟨u', h6, rfl⟩ := hget i j x y h3 h4
        rw [h5] at h6; cases h6; exact cAV_rep _ _ _)
    rw [List.length_map] at h
    exact h
theorem vrep_agg {α : Type} {enc : α → List Value} {av : α → AV} (hc : ∀ x, av x = .agg ((enc x).map cAV)) {w : World} (x : α) : VRep [] w (.agg (enc x).toArray) (av x) := by
  rw [hc]
  refine .agg _ _ (by simp) fun j u y h1 h2 => ?_
  rw [List.getElem?_map] at h2
  rw [show (enc x)[j]? = some u by simpa using h1] at h2
  cases h2; exact cAV_rep _ _ _
theorem vrep_two {w : World} (x y : Int) : ∀ (j : Nat) (u : Value) (z : AV), (#[Value.int .i64 x, .int .i64 y] : Array Value)[j]? = some u → ([AV.int .i64 x, .int .i64 y] : List AV)[j]? = some z → VRep [] w u z := by
  intro j u z h1 h2
  match j with
  | 0 => simp at h1 h2; subst h1 h2; exact .int _ _
  | 1 => simp at h1 h2; subst h1 h2; exact .int _ _
  | j + 2 => simp at h1
end Go.Proofs.Ytopmppnnihdnaaa
