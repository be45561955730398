/- Numbers and sums, by the abstract machine. -/
import Derived.Test.YtopmppnnihdnaaaAmTys
import Derived.Test.YtopmppnnihdnaaaNumAm
import Derived.Test.YtopmppnnihdnaaaFramePlain
namespace Go.Proofs.Ytopmppnnihdnaaa
set_option linter.unusedVariables false
set_option linter.unusedSimpArgs false
open Go.RowKit
open NumP
set_option maxRecDepth 100000
/-- where the first one stands -/
def idxOf {α : Type} (p : α → Bool) (l : List α) : Int := match l.findIdx? p with
  | some i => (i : Int)
  | none => -1
theorem idx_hit {α : Type} [Inhabited α] {p : α → Bool} {l : List α} {k : Nat} (hk : k < l.length) (h : ∀ j, j < k → p (l.getD j default) = false) (hp : p (l.getD k default) = true) : idxOf p l = (k : Int) := by
  have : l.findIdx? p = some k := by
    rw [List.findIdx?_eq_some_iff_getElem]
    refine ⟨hk, ?_, fun j hj => ?_⟩
    · simpa [List.getD, hk] using hp
    · have := h j hj
      simp [List.getD, show j < l.length by omega] at this
      simp [this]
  unfold idxOf; rw [this]
theorem idx_none {α : Type} [Inhabited α] {p : α → Bool} {l : List α} (h : ∀ j, j < l.length → p (l.getD j default) = false) : idxOf p l = -1 := by
  have : l.findIdx? p = none := by
    rw [List.findIdx?_eq_none_iff]
    intro x hx
    obtain ⟨j, hj, rfl⟩ := List.mem_iff_getElem.1 hx
    have := h j hj
    simpa [List.getD, hj] using this
  unfold idxOf; rw [this]
theorem any_idx {α : Type} (p : α → Bool) (l : List α) : decide (0 ≤ idxOf p l) = l.any p := by
  unfold idxOf
  cases h : l.findIdx? p with
  | none =>
    have := List.findIdx?_eq_none_iff.1 h
    symm; simp; exact this
  | some i =>
    obtain ⟨hi, h2, _⟩ := List.findIdx?_eq_some_iff_getElem.1 h
    have : l.any p = true := List.any_eq_true.2 ⟨_, List.getElem_mem hi, h2⟩
    rw [this]; simp
theorem neg_one_cv : cAV (.int .i64 (-1)) = .int .i64 (-1) := rfl
theorem take_eq_go {α : Type} [Inhabited α] {a b : List α} {k : Nat} (h : a.take k = b.take k) (ha : k < a.length) (hb : k < b.length) (he : a.getD k default = b.getD k default) : a.take (k + 1) = b.take (k + 1) := by
  rw [List.take_succ_eq_append_getElem ha, List.take_succ_eq_append_getElem hb, h]
  simp [List.getD, ha, hb] at he
  rw [he]
theorem ne_of_get {α : Type} [Inhabited α] {a b : List α} {k : Nat} (he : a.getD k default ≠ b.getD k default) : a ≠ b := fun e => he (by rw [e])
theorem fit_at {l : List Int} (hf : ∀ x, x ∈ l → -9223372036854775808 ≤ x ∧ x ≤ 9223372036854775807) {k : Nat} (hk : k < l.length) : -9223372036854775808 ≤ l.getD k default ∧ l.getD k default ≤ 9223372036854775807 := by
  simp only [List.getD, List.getElem?_eq_getElem hk, Option.getD_some]; exact hf _ (List.getElem_mem hk)
theorem liesB : liesAt Try.prog Try.prog.depth 49 (2 / Try.prog.cellsOf 49) 0 49 1 = true := by kernel_rfl
theorem writeB (l : List UInt8) (t : ByteArray) (h : l.length + t.size ≤ 100000000) : FnM Try.prog 22 (fun i => [.box i 0, .str t]) [.adr 49, .buf 5 (bs l)] (.tup [.int .i64 t.size, .raw .nilIface]) [.adr 49, .buf 5 (bs l ++ t)] :=
  bld_write (n := 2) liesB (by decide) (bs l) t [] rfl (by rw [bs_size]; omega)

theorem map_snocI (l : List Int) (x : Int) : l.map (AV.int .i64) ++ [AV.int .i64 x] = (l ++ [x]).map (AV.int .i64) := by simp
theorem size_fn (n : Int) (h : -9223372036854775808 ≤ n ∧ n ≤ 9223372036854775807) : FnP Try.prog 24 [.int .i64 n] (.int .i64 (sizeN n)) :=
  FnP.of_calls rfl (by simp) (by simp) fun w => (size_any n w h.1 h.2).mono fun e w' ⟨h1, h2⟩ => ⟨_, h1, h2 ▸ Below.refl _ _, .int _ _⟩
theorem seal_fn (s : ByteArray) (hs : s.size ≤ 1000000) : FnP Try.prog 19 [.str s] (.str (bs (closed (bl s)))) :=
  FnP.of_calls rfl (by simp) (by simp) fun w => (CrcT.closed_any s w hs).mono fun e w' ⟨h1, h2⟩ => ⟨_, h1, h2, .str _⟩
theorem sealR_fn (s : ByteArray) (hs : s.size ≤ 1000000) : FnP Try.prog 21 [.str s] (.str (bs (closed (bl s)))) :=
  FnP.of_calls rfl (by simp) (by simp) fun w => (CrcT.closed_ref s w hs).mono fun e w' ⟨h1, h2⟩ => ⟨_, h1, h2, .str _⟩
theorem unseal_fn (s : ByteArray) (hs : s.size ≤ 1000000) : FnP Try.prog 26 [.str s] (.tup [.str (bs (opened (bl s)).1), .int .i64 (opened (bl s)).2]) :=
  FnP.of_calls rfl (by simp) (by simp) fun w => (CrcT.opened_any s w hs).mono fun e w' ⟨h1, h2⟩ => ⟨_, h1, h2, VRep.tup2 (.str _) (.int _ _)⟩
theorem unsealR_fn (s : ByteArray) (hs : s.size ≤ 1000000) : FnP Try.prog 28 [.str s] (.tup [.str (bs (opened (bl s)).1), .int .i64 (opened (bl s)).2]) :=
  FnP.of_calls rfl (by simp) (by simp) fun w => (CrcT.opened_ref s w hs).mono fun e w' ⟨h1, h2⟩ => ⟨_, h1, h2, VRep.tup2 (.str _) (.int _ _)⟩
end Go.Proofs.Ytopmppnnihdnaaa
