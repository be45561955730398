/- The stock: the contracts of package stock's inner functions. -/
import Derived.Test.YtfnmaemeofkagaaBase
import Derived.Test.YtfnmaemeofkagaaStockPlain
namespace Go.Proofs.Ytfnmaemeofkagaa
open Go.ChangeShapes Go.WideShapes Go.ChangeAt Go.RowKit
open StockP
set_option maxRecDepth 100000
/-- an item's cells -/
def encT (x : It) : List Value := [.int .i64 x.id, .int .i64 x.free, .int .i64 x.held, .int .i64 x.gone]
/-- an item as a value -/
abbrev itv (a b c d : Int) : Value := .agg #[.int .i64 a, .int .i64 b, .int .i64 c, .int .i64 d]
def fitT (x : It) : Prop := (-9223372036854775808 ≤ x.id ∧ x.id ≤ 9223372036854775807) ∧ (-9223372036854775808 ≤ x.free ∧ x.free ≤ 9223372036854775807) ∧ (-9223372036854775808 ≤ x.held ∧ x.held ≤ 9223372036854775807) ∧ (-9223372036854775808 ≤ x.gone ∧ x.gone ≤ 9223372036854775807)
set_option maxHeartbeats 1000000 in
theorem may_any (a b c d : Int) (w : World) (hf : fitT ⟨a, b, c, d⟩) :
    Calls Try.prog 33 #[itv a b c d] w fun e w' => e = .returned (.bool (may ⟨a, b, c, d⟩)) ∧ Below w.heap.size w w' := by
  obtain ⟨⟨h1, h2⟩, ⟨h3, h4⟩, ⟨h5, h6⟩, ⟨h7, h8⟩⟩ := hf
  simp only at *
  by_cases c1 : a < 1 ∨ 99999 < a
  · have hm : may ⟨a, b, c, d⟩ = false := by unfold may; simp; omega
    rw [hm]
    clear hm
    rcases c1 with c1 | c1
    all_goals
      go_enter Try.func33, Try.ntmps33
      go_wp2_with fail
      go_ret
      exact ⟨rfl, (Below.refl _ _).alloc (Nat.le_refl _) _⟩
  · have c1a : 1 ≤ a := by omega
    have c1b : a ≤ 99999 := by omega
    clear c1
    by_cases c2 : b < 0 ∨ c < 0 ∨ d < 0 ∨ 1000000 < b ∨ 1000000 < c ∨ 1000000 < d
    · have hm : may ⟨a, b, c, d⟩ = false := by unfold may; simp; omega
      rw [hm]
      clear hm
      go_enter Try.func33, Try.ntmps33
      go_wp2_with fail
      all_goals first
        | (exfalso; omega)
        | (go_ret; exact ⟨rfl, (Below.refl _ _).alloc (Nat.le_refl _) _⟩)
    · have d1 : 0 ≤ b := by omega
      have d2 : 0 ≤ c := by omega
      have d3 : 0 ≤ d := by omega
      have d4 : b ≤ 1000000 := by omega
      have d5 : c ≤ 1000000 := by omega
      have d6 : d ≤ 1000000 := by omega
      clear c2
      by_cases c3 : b + c + d ≤ 1000000
      · have hm : may ⟨a, b, c, d⟩ = true := by unfold may; simp; omega
        rw [hm]
        clear hm
        go_enter Try.func33, Try.ntmps33
        go_wp2_with fail
        all_goals first
          | (exfalso; omega)
          | (go_ret; exact ⟨rfl, (Below.refl _ _).alloc (Nat.le_refl _) _⟩)
      · have hm : may ⟨a, b, c, d⟩ = false := by unfold may; simp; omega
        rw [hm]
        clear hm
        go_enter Try.func33, Try.ntmps33
        go_wp2_with fail
        all_goals first
          | (exfalso; omega)
          | (go_ret; exact ⟨rfl, (Below.refl _ _).alloc (Nat.le_refl _) _⟩)
set_option maxHeartbeats 1000000 in
theorem atf_any (a b c d id : Int) (g : Addr) (w : World) (hg : w.cell? g = some (.int .i64 id)) :
    Calls Try.prog 48 #[itv a b c d, .pointer (some g)] w fun e w' => e = .returned (.bool (a == id)) ∧ Below w.heap.size w w' := by
  have hlt := World.block_lt_of_cell? w _ hg
  go_enter Try.func48, Try.ntmps48
  go_wp2_with fail
  all_goals
    go_ret
    exact ⟨ret_bool (by simp [*]), (Below.refl _ _).alloc (Nat.le_refl _) _⟩
theorem Reads.item {w : World} {a : Option Addr} {xs : List It} (h : Reads encT 4 w a xs) (i : Nat) (hi : i < xs.length) : ∃ b off, a = some ⟨b, off, none⟩ ∧ b < w.heap.size ∧
    w.cell? ⟨b, off + i * 4, none⟩ = some (.int .i64 xs[i].id) ∧ w.cell? ⟨b, off + i * 4 + 1, none⟩ = some (.int .i64 xs[i].free) ∧ w.cell? ⟨b, off + i * 4 + 2, none⟩ = some (.int .i64 xs[i].held) ∧ w.cell? ⟨b, off + i * 4 + 3, none⟩ = some (.int .i64 xs[i].gone) := by
  obtain ⟨b, off, ha, hb, hc⟩ := h i hi
  exact ⟨b, off, ha, hb, by simpa [encT] using hc 0 (by omega), by simpa [encT] using hc 1 (by omega), by simpa [encT] using hc 2 (by omega), by simpa [encT] using hc 3 (by omega)⟩
set_option maxHeartbeats 1000000 in
theorem indexAt_any (a : Option Addr) (cap : Nat) (xs : List It) (id : Int) (g : Addr) (w : World) (hr : Reads encT 4 w a xs) (hl : xs.length ≤ maxLen) (hg : w.cell? g = some (.int .i64 id)) :
    Calls Try.prog 47 #[.slice a xs.length cap, .func (.func 48) #[] #[.pointer (some g)]] w fun e w' => e = .returned (.int .i64 (idx (fun x => x.id == id) xs)) ∧ Below w.heap.size w w' := by
  unfold maxLen at hl
  have hgl := World.block_lt_of_cell? w _ hg
  have HR := Lib.hid hr
  clear hr
  go_enter Try.func47, Try.ntmps47
  go_wp2_with fail
  go_loopw [8] (fun v8 wr => ∃ (k : Nat), k ≤ xs.length ∧ v8 = .int .i64 k ∧ (∀ j, (hj : j < xs.length) → j < k → (xs[j].id == id) = false) ∧ Below w.heap.size w wr) (fun v8 _ => xs.length - (intOf v8).toNat)
  case atStart => exact ⟨0, by omega, rfl, by intro j _ h; omega, Below.refl _ _⟩
  case round =>
    obtain ⟨k, hk, rfl, hb, hbel⟩ := hrel
    have HB := Lib.hid hb
    clear hb
    by_cases hlt : k < xs.length
    · obtain ⟨b, off, rfl, hbl, c0, c1, c2, c3⟩ := (HR.out.below hbel).item k hlt
      have hg2 : ∀ W : World, Below w.heap.size w W → W.cell? g = some (.int .i64 id) := fun W h => (h.cell hgl).trans hg
      have HG2 := Lib.hid hg2
      clear hg2
      have HP := Lib.hid (place_is (fun x => x.id == id) xs k hlt HB.out)
      have HX : Hid (xs[k]'hlt = xs[k]'hlt) := rfl
      generalize hx : xs[k] = x at c0 c1 c2 c3 HP
      have HXK := Lib.hid hx
      clear hx HX
      go_wp2_with fail
      refine (atf_any _ _ _ _ id g _ (HG2.out _ hbel)).mono ?_
      rintro e w2 ⟨rfl, hb2⟩
      have hbel2 := bt hbel hb2
      clear hb2
      by_cases hxi : x.id = id
      · have hxb : (x.id == id) = true := by simpa using hxi
        have hi : idx (fun x => x.id == id) xs = (k : Int) := by
          unfold idx; rw [HP.out hxb, if_pos hlt]
        have HI := Lib.hid hi
        clear hi hxi
        go_wp2_with fail
        go_ret
        exact ⟨ret_int HI.out.symm, hbel2⟩
      · have hxb : (x.id == id) = false := by simpa using hxi
        clear hxi
        go_wp2_with fail
        refine ⟨⟨k + 1, by omega, by go_num, ?_, hbel2⟩, by simp [intOf]; omega⟩
        intro j hj hjk
        by_cases e : j = k
        · subst e; rw [HXK.out]; exact hxb
        · exact HB.out j hj (by omega)
    · obtain rfl : k = xs.length := by omega
      have hi : idx (fun x => x.id == id) xs = -1 := by
        unfold idx; rw [place_none _ xs (fun j hj => HB.out j hj hj), if_neg (by omega)]
      have HI := Lib.hid hi
      clear hi
      go_wp2_with fail
      go_ret
      exact ⟨ret_int HI.out.symm, hbel⟩
end Go.Proofs.Ytfnmaemeofkagaa
