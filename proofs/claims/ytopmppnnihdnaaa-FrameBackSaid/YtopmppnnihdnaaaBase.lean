/- What all walks here share: texts as lists of bytes, one call behind the other, slices as lists. -/
import Derived.Test.YtopmppnnihdnaaaRows
import Derived.WalkKit
import Derived.ProofKit
import Derived.OpenShut
import Derived.Handy
import Derived.WalkLawsBesides
import Derived.WalkSpells
import Derived.BigQuiet
import Derived.Deep.QuietTactic
import Derived.Deep.RegionWith
import Derived.Laws.BytesArg
import Derived.Lib.Hide
import Derived.Test.YtopmppnnihdnaaaRg
namespace Go.Proofs.Ytopmppnnihdnaaa
set_option linter.unusedVariables false
set_option linter.unusedSimpArgs false
open Go.ChangeShapes Go.WideShapes Go.ChangeAt Go.RowKit
/-- a text of bytes -/
def bs (l : List UInt8) : ByteArray := ⟨l.toArray⟩
/-- a text's bytes -/
def bl (s : ByteArray) : List UInt8 := s.data.toList
@[go_sem] theorem bs_toList (l : List UInt8) : (bs l).toList = l := ByteArray.toList_mk l
@[go_sem] theorem bs_size (l : List UInt8) : (bs l).size = l.length := rfl
/-- one call behind the other -/
theorem bt {a b c : World} (h : Below a.heap.size a b) (k : Below b.heap.size b c) : Below a.heap.size a c := h.trans (k.mono h.size)
theorem undrew {w w2 : World} (h : Below w.drew.heap.size w.drew w2) : Below w.heap.size w w2 := ⟨h.os, h.tape, h.output, h.size, h.block⟩
theorem bcell {B : Nat} {W w1 : World} (hb : Below B W w1) : (∀ b o, b < B → w1.cell? ⟨b, o, none⟩ = W.cell? ⟨b, o, none⟩) ∧ (∀ b o, b < B → w1.frozen? ⟨b, o, none⟩ = W.frozen? ⟨b, o, none⟩) :=
  ⟨fun b o h => hb.cell (p := ⟨b, o, none⟩) h, fun b o h => hb.frozen (p := ⟨b, o, none⟩) h⟩
theorem bl_bs (l : List UInt8) : bl (bs l) = l := rfl
theorem bs_bl (s : ByteArray) : bs (bl s) = s := rfl
theorem bl_len (s : ByteArray) : (bl s).length = s.size := Array.length_toList
theorem bl_toList (s : ByteArray) : s.toList = bl s := ByteArray.toList_eq s
theorem bl_inj {s t : ByteArray} (h : bl s = bl t) : s = t := by
  apply ByteArray.ext; apply Array.toList_inj.1; exact h
theorem toList_ne {x y : ByteArray} (h : x ≠ y) : (x.toList == y.toList) = false := by
  rw [beq_eq_false_iff_ne]; intro e; exact h (bl_inj (by rw [← bl_toList, ← bl_toList]; exact e))
theorem bl_append (s t : ByteArray) : bl (s ++ t) = bl s ++ bl t := by simp [bl]
@[go_sem] theorem bs_append (s t : List UInt8) : bs s ++ bs t = bs (s ++ t) := by
  apply ByteArray.ext; simp [bs]
theorem bl_get (s : ByteArray) (k : Nat) (h : k < s.size) : (bl s)[k]? = some s[k] := by
  unfold bl; rw [List.getElem?_eq_getElem (by simpa using h)]; rfl
theorem bl_getD (s : ByteArray) (k : Nat) (h : k < s.size) : (bl s).getD k 0 = s[k] := by
  rw [List.getD, bl_get s k h]; rfl
theorem bl_extract (s : ByteArray) (a b : Nat) : bl (s.extract a b) = ((bl s).take b).drop a := by
  unfold bl; simp [ByteArray.data_extract, List.drop_take]
theorem bl_extract0 (s : ByteArray) (b : Nat) : s.extract 0 b = bs ((bl s).take b) := by
  apply bl_inj; rw [bl_extract, bl_bs, List.drop_zero]
theorem bl_extract_end (s : ByteArray) (a : Nat) : s.extract a s.size = bs ((bl s).drop a) := by
  apply bl_inj; rw [bl_extract, bl_bs, ← bl_len, List.take_length]
theorem bl_take_succ (s : ByteArray) (k : Nat) (h : k < s.size) : (bl s).take (k + 1) = (bl s).take k ++ [s[k]] := by
  unfold bl; rw [List.take_succ_eq_append_getElem (by simpa using h)]; rfl
theorem bl_take_all (s : ByteArray) : (bl s).take s.size = bl s := List.take_of_length_le (by rw [bl_len]; exact Nat.le_refl _)
theorem byte_bd (b : UInt8) : (b.toNat : Int) ≤ 255 := by have := b.toNat_lt; omega
theorem emp_bs : ({ data := #[] } : ByteArray) = bs [] := rfl
theorem ret_str {a b : ByteArray} (h : a = b) : Ending.returned (.string a) = .returned (.string b) := by rw [h]
theorem ret_int {k : IntKind} {a b : Int} (h : a = b) : Ending.returned (.int k a) = .returned (.int k b) := by rw [h]
theorem ret_bool {a b : Bool} (h : a = b) : Ending.returned (.bool a) = .returned (.bool b) := by rw [h]
theorem ret_si {a b : ByteArray} {x y : Int} (h : a = b) (g : x = y) : Ending.returned (.tuple #[.string a, .int .i64 x]) = .returned (.tuple #[.string b, .int .i64 y]) := by rw [h, g]
theorem ret_iii {a b x y c d : Int} (h : a = b) (g : x = y) (f : c = d) : Ending.returned (.tuple #[.int .i64 a, .int .i64 x, .int .i64 c]) = .returned (.tuple #[.int .i64 b, .int .i64 y, .int .i64 d]) := by rw [h, g, f]
theorem ret_gii {g : Int × Int} {a b : Int} (h : g = (a, b)) : Ending.returned (.tuple #[.int .i64 a, .int .i64 b]) = .returned (.tuple #[.int .i64 g.1, .int .i64 g.2]) := by rw [h]
theorem ret_giii {g : Int × Int × Int} {a b c : Int} (h : g = (a, b, c)) : Ending.returned (.tuple #[.int .i64 a, .int .i64 b, .int .i64 c]) = .returned (.tuple #[.int .i64 g.1, .int .i64 g.2.1, .int .i64 g.2.2]) := by rw [h]
theorem ret_gsi {g : List UInt8 × Int} {l : List UInt8} {e : Int} (h : g = (l, e)) : Ending.returned (.tuple #[.string (bs l), .int .i64 e]) = .returned (.tuple #[.string (bs g.1), .int .i64 g.2]) := by rw [h]
theorem wf64 {a : Int} (ha : (Lit.int .i64 a).wf = true) : -9223372036854775808 ≤ a ∧ a ≤ 9223372036854775807 := by
  simpa [Lit.wf, IntKind.min, IntKind.max, IntKind.signed, IntKind.bits] using ha

/-! ### a slice that reads as a list: every element lies in sz cells -/
def Reads {α : Type} (enc : α → List Value) (sz : Nat) (w : World) (a : Option Addr) (xs : List α) : Prop :=
  ∀ i, (h : i < xs.length) → ∃ b off, a = some ⟨b, off, none⟩ ∧ b < w.heap.size ∧ ∀ j, j < sz → w.cell? ⟨b, off + i * sz + j, none⟩ = (enc xs[i])[j]?
theorem Reads.below {α : Type} {enc : α → List Value} {sz : Nat} {w w' : World} {a : Option Addr} {xs : List α} (h : Reads enc sz w a xs) (k : Below w.heap.size w w') : Reads enc sz w' a xs := by
  intro i hi
  obtain ⟨b, off, ha, hb, hc⟩ := h i hi
  refine ⟨b, off, ha, Nat.lt_of_lt_of_le hb k.size, fun j hj => ?_⟩
  rw [k.cell (p := ⟨b, off + i * sz + j, none⟩) hb]
  exact hc j hj
theorem Reads.drew {α : Type} {enc : α → List Value} {sz : Nat} {w : World} {a : Option Addr} {xs : List α} (h : Reads enc sz w a xs) : Reads enc sz w.drew a xs := h
theorem Reads.nil {α : Type} (enc : α → List Value) (sz : Nat) (w : World) (a : Option Addr) : Reads enc sz w a [] := fun i hi => absurd hi (Nat.not_lt_zero i)
theorem flat_get {α : Type} (enc : α → List Value) (sz : Nat) (hz : ∀ x, (enc x).length = sz) (xs : List α) : ∀ i, (h : i < xs.length) → ∀ j, j < sz → (xs.flatMap enc)[i * sz + j]? = (enc xs[i])[j]? := by
  induction xs with
  | nil => intro i h; exact absurd h (Nat.not_lt_zero i)
  | cons x xs ih =>
    intro i h j hj
    rw [List.flatMap_cons]
    cases i with
    | zero => rw [List.getElem?_append_left (by rw [hz]; omega)]; simp
    | succ i =>
      rw [List.getElem?_append_right (by rw [hz, Nat.add_mul]; omega), hz]
      rw [show (i + 1) * sz + j - sz = i * sz + j by rw [Nat.add_mul]; omega]
      exact ih i (by simpa using h) j hj
theorem Reads.of_owns {α : Type} {enc : α → List Value} {sz : Nat} (hz : ∀ x, (enc x).length = sz) {w : World} {base e n : Nat} {v : Value} {xs : List α} (hn : n = xs.length)
    (h : w.ownsRow base e sz v n (xs.flatMap enc)) : ∃ a cap, v = .slice a n cap ∧ n ≤ cap ∧ cap ≤ maxLen ∧ Reads enc sz w a xs := by
  rcases h.2 with ⟨rfl, rfl⟩ | ⟨g, cap, cur, rfl, hb, hg, hnc, hcm, hcs, htake⟩
  · have : xs = [] := List.eq_nil_of_length_eq_zero hn.symm
    subst this
    exact ⟨none, 0, rfl, Nat.le_refl _, Nat.zero_le _, Reads.nil _ _ _ _⟩
  · refine ⟨some ⟨g, 0, none⟩, cap, rfl, hnc, hcm, fun i hi => ⟨g, 0, rfl, (Array.getElem?_eq_some_iff.1 hg).1, fun j hj => ?_⟩⟩
    have hc := cell_of_row w g (i * sz + j) cur e (0, 0) hg
    rw [Nat.zero_add, hc, ← flat_get enc sz hz xs i hi j hj, ← htake, List.getElem?_take]
    have h1 : (i + 1) * sz ≤ n * sz := Nat.mul_le_mul_right _ (by omega)
    have h2 : i * sz + j < n * sz := by rw [Nat.add_mul] at h1; omega
    rw [if_pos h2]
    simp
/-- a value that is a slice that reads as a list -/
def IsSl {α : Type} (enc : α → List Value) (sz : Nat) (w : World) (v : Value) (xs : List α) : Prop := ∃ a cap, v = .slice a xs.length cap ∧ xs.length ≤ cap ∧ cap ≤ maxLen ∧ Reads enc sz w a xs
theorem IsSl.below {α : Type} {enc : α → List Value} {sz : Nat} {w w' : World} {v : Value} {xs : List α} (h : IsSl enc sz w v xs) (k : Below w.heap.size w w') : IsSl enc sz w' v xs := by
  obtain ⟨a, cap, h1, h2, h3, h4⟩ := h
  exact ⟨a, cap, h1, h2, h3, h4.below k⟩
theorem IsSl.nil {α : Type} (enc : α → List Value) (sz : Nat) (w : World) : IsSl enc sz w (.slice none 0 0) [] := ⟨none, 0, rfl, Nat.le_refl _, Nat.zero_le _, Reads.nil _ _ _ _⟩
theorem _root_.Go.World.ownsRow.below' {w w' : World} {base : Nat} {e : TypeId} {size : Nat} {v : Value} {n : Nat} {xs : List Value} (h : w.ownsRow base e size v n xs) (k : Below w.heap.size w w') : w'.ownsRow base e size v n xs := by
  refine ⟨h.1, ?_⟩
  rcases h.2 with h2 | ⟨g, cap, cur, h1, h2, h3, h4⟩
  · exact .inl h2
  · exact .inr ⟨g, cap, cur, h1, h2, by rw [k.block g (Array.getElem?_eq_some_iff.1 h3).1]; exact h3, h4⟩
/-- a slice of no older block than B -/
def Above (B : Nat) (v : Value) : Prop := ∀ b off s n c, v = .slice (some ⟨b, off, s⟩) n c → B ≤ b
theorem Above.nil (B : Nat) : Above B (.slice none 0 0) := by intro b off s n c h; cases h
theorem Above.mono {B C : Nat} {v : Value} (h : Above B v) (k : C ≤ B) : Above C v := fun b off s n c e => Nat.le_trans k (h b off s n c e)
theorem Above.owns {w : World} {base : Nat} {e : TypeId} {size : Nat} {v : Value} {n : Nat} {xs : List Value} (h : w.ownsRow base e size v n xs) : Above base v := by
  intro b off s n' c hv
  rcases h.2 with ⟨h1, _⟩ | ⟨g, cap, cur, h1, h2, _⟩
  · rw [h1] at hv; cases hv
  · rw [h1] at hv; cases hv; exact h2
theorem IsSl.set {α : Type} {enc : α → List Value} {sz : Nat} {w : World} {v : Value} {xs : List α} (h : IsSl enc sz w v xs) (p : Addr) (u : Value) (hne : ∀ b off s n c, v = .slice (some ⟨b, off, s⟩) n c → b ≠ p.block) : IsSl enc sz (w.setCell p u) v xs := by
  obtain ⟨a, cap, h1, h2, h3, h4⟩ := h
  refine ⟨a, cap, h1, h2, h3, fun i hi => ?_⟩
  obtain ⟨b, off, ha, hb, hc⟩ := h4 i hi
  refine ⟨b, off, ha, by simpa using hb, fun j hj => ?_⟩
  have hn : p ≠ ⟨b, off + i * sz + j, none⟩ := fun e => hne b off none _ _ (by rw [h1, ha]) (by rw [e])
  rw [World.cell?_setCell_other _ _ _ _ hn]
  exact hc j hj
theorem addr_add (b off j : Nat) : (⟨b, off, none⟩ : Addr).add j = ⟨b, off + j, none⟩ := by unfold Addr.add; split <;> simp_all
/-- what a literal's block holds -/
theorem new_cells (w : World) (l : List Value) (T : TypeId) : ∀ j u, l[j]? = some u → (w.alloc (.cells l.toArray T)).cell? ((⟨w.heap.size, 0, none⟩ : Addr).add j) = some u := by
  intro j u h
  rw [addr_add, World.cell?_alloc_new]
  simpa using h
/-- a literal's row, wherever it lies -/
def NewRow (n : Nat) (cs : List Value) (v : Value) (W : World) : Prop := ∃ b, v = .slice (some ⟨b, 0, none⟩) n n ∧ b < W.heap.size ∧ ∀ j u, cs[j]? = some u → W.cell? ((⟨b, 0, none⟩ : Addr).add j) = some u
theorem NewRow.below {n : Nat} {cs : List Value} {v : Value} {W W' : World} (h : NewRow n cs v W) (k : Below W.heap.size W W') : NewRow n cs v W' := by
  obtain ⟨b, h1, h2, h3⟩ := h
  refine ⟨b, h1, Nat.lt_of_lt_of_le h2 k.size, fun j u hu => ?_⟩
  have := h3 j u hu
  rw [addr_add] at this ⊢
  rw [k.cell (p := ⟨b, 0 + j, none⟩) h2]; exact this
theorem NewRow.new (n : Nat) (cs : List Value) (W : World) (T : TypeId) : NewRow n cs (.slice (some ⟨W.heap.size, 0, none⟩) n n) (W.alloc (.cells cs.toArray T)) :=
  ⟨W.heap.size, rfl, by simp, new_cells W cs T⟩
/-- a slice of ints -/
def encI (x : Int) : List Value := [.int .i64 x]
theorem encI_len (x : Int) : (encI x).length = 1 := rfl
theorem flat_encI (l : List Int) : l.flatMap encI = l.map (Value.int .i64) := by
  induction l with
  | nil => rfl
  | cons x l ih => rw [List.flatMap_cons, ih]; rfl
theorem Reads.int {w : World} {a : Option Addr} {xs : List Int} (h : Reads encI 1 w a xs) (i : Nat) (hi : i < xs.length) : ∃ b off, a = some ⟨b, off, none⟩ ∧ b < w.heap.size ∧ w.cell? ⟨b, off + i, none⟩ = some (.int .i64 xs[i]) := by
  obtain ⟨b, off, ha, hb, hc⟩ := h i hi
  refine ⟨b, off, ha, hb, ?_⟩
  have := hc 0 (by omega)
  simpa [encI] using this
end Go.Proofs.Ytopmppnnihdnaaa
