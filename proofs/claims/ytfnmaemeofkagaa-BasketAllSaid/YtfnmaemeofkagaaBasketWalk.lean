/- The basket: Check, may, Total. -/
import Derived.Test.YtfnmaemeofkagaaStockDo
import Derived.Test.YtfnmaemeofkagaaBasketPlain
namespace Go.Proofs.Ytfnmaemeofkagaa
open Go.ChangeShapes Go.WideShapes Go.ChangeAt Go.RowKit
open StockP
set_option maxRecDepth 100000
/-- a line's cells -/
def encL (x : Ln) : List Value := [.int .i64 x.item, .int .i64 x.qty]
theorem encL_len (x : Ln) : (encL x).length = 2 := rfl
abbrev lnv (a b : Int) : Value := .agg #[.int .i64 a, .int .i64 b]
def fitL (x : Ln) : Prop := (-9223372036854775808 ≤ x.item ∧ x.item ≤ 9223372036854775807) ∧ (-9223372036854775808 ≤ x.qty ∧ x.qty ≤ 9223372036854775807)
theorem Reads.line {w : World} {a : Option Addr} {xs : List Ln} (h : Reads encL 2 w a xs) (i : Nat) (hi : i < xs.length) : ∃ b off, a = some ⟨b, off, none⟩ ∧ b < w.heap.size ∧
    w.cell? ⟨b, off + i * 2, none⟩ = some (.int .i64 xs[i].item) ∧ w.cell? ⟨b, off + i * 2 + 1, none⟩ = some (.int .i64 xs[i].qty) := by
  obtain ⟨b, off, ha, hb, hc⟩ := h i hi
  exact ⟨b, off, ha, hb, by simpa [encL] using hc 0 (by omega), by simpa [encL] using hc 1 (by omega)⟩
/-- a line's box -/
structure OneLine (W : World) (B : Nat) (a b : Value) : Prop where
  size : B < W.heap.size
  x0 : W.cell? ⟨B, 0, none⟩ = some a
  x1 : W.cell? ⟨B, 1, none⟩ = some b
theorem OneLine.below {W w2 : World} {B : Nat} {a b : Value} (h : OneLine W B a b) (k2 : Below W.heap.size W w2) : OneLine w2 B a b :=
  ⟨Nat.lt_of_lt_of_le h.size k2.size, (k2.cell (p := ⟨B, 0, none⟩) h.size).trans h.x0, (k2.cell (p := ⟨B, 1, none⟩) h.size).trans h.x1⟩
theorem one_line (w : World) (a b : Value) (T : TypeId) : OneLine (w.alloc (.cells #[a, b] T)) w.heap.size a b := by
  have o : ∀ j, (w.alloc (.cells #[a, b] T)).cell? ⟨w.heap.size, j, none⟩ = (#[a, b] : Array Value)[j]? := fun j => World.cell?_alloc_new _ _ _ _
  exact ⟨by simp, (o 0).trans rfl, (o 1).trans rfl⟩
set_option maxHeartbeats 2000000 in
theorem checkL_any (a : Option Addr) (cap : Nat) (xs : List Ln) (w : World) (hr : Reads encL 2 w a xs) (hl : xs.length ≤ maxLen) (hf : ∀ x, x ∈ xs → fitL x) :
    Calls Try.prog 11 #[.slice a xs.length cap] w fun e w' => e = .returned (.int .i64 (okLE xs)) ∧ Below w.heap.size w w' := by
  unfold maxLen at hl
  by_cases h0 : xs.length < 1
  · have ho : okLE xs = 2 := by unfold okLE okL; rw [if_neg]; simp; intro h; omega
    rw [ho]
    have hd : decide ((xs.length : Int) < 1) = true := by simp; omega
    clear ho hr hf
    go_enter Try.func11, Try.ntmps11
    go_wp2_with fail
    all_goals first | (exfalso; omega) | (go_ret; exact ⟨rfl, Below.refl _ _⟩)
  · by_cases h5 : 5 < xs.length
    · have ho : okLE xs = 2 := by unfold okLE okL; rw [if_neg]; simp; intro h; omega
      rw [ho]
      have hd : decide ((xs.length : Int) < 1) = false := by simp; omega
      clear ho hr hf
      go_enter Try.func11, Try.ntmps11
      go_wp2_with fail
      all_goals first | (exfalso; omega) | (go_ret; exact ⟨rfl, Below.refl _ _⟩)
    · have HR := Lib.hid hr
      have HF := Lib.hid hf
      have HD := Lib.hid (And.intro h0 h5)
      have hd : decide ((xs.length : Int) < 1) = false := by simp; omega
      have hd2 : decide ((5 : Int) < (xs.length : Int)) = false := by simp; omega
      clear hr hf
      go_enter Try.func11, Try.ntmps11
      go_wp2_with fail
      go_loopw [3, 16] (fun v3 v16 wr => ∃ (k : Nat), k ≤ xs.length ∧ v16 = .int .i64 k ∧ okLFrom 0 (xs.take k) = true ∧ v3 = .int .i64 (lastL 0 (xs.take k)) ∧ Below w.heap.size w wr) (fun _ v16 _ => xs.length - (intOf v16).toNat)
      case atStart => exact ⟨0, by omega, rfl, rfl, rfl, Below.refl _ _⟩
      case round =>
        obtain ⟨k, hk, rfl, hb, rfl, hbel⟩ := hrel
        have HB := Lib.hid hb
        clear hb
        by_cases hlt : k < xs.length
        · obtain ⟨b, off, rfl, hbl, c0, c1⟩ := (HR.out.below hbel).line k hlt
          have htk : xs.take (k + 1) = xs.take k ++ [xs[k]] := by simp
          have HS := Lib.hid ((congrArg (okLFrom 0) htk).trans (okLFrom_snoc (xs.take k) xs[k] 0))
          have HLS := Lib.hid ((congrArg (lastL 0) htk).trans (lastL_snoc (xs.take k) xs[k] 0))
          have hfx : fitL xs[k] := HF.out _ (List.getElem_mem hlt)
          clear htk
          have HN : Hid (okLFrom 0 (xs.take (k + 1)) = false → okLE xs = 2) := by
            intro h; unfold okLE okL; rw [okLFrom_cut h]; simp
          generalize hx : xs[k] = x at c0 c1 HS HLS hfx
          clear hx
          generalize lastL 0 (xs.take k) = p at HS ⊢
          obtain ⟨i, q⟩ := x
          simp only at c0 c1 HS HLS
          have hbox : Below w.heap.size w (wr.alloc (.cells #[.int .i64 i, .int .i64 q] 40)) := hbel.alloc hbel.size _
          by_cases hok : p < i ∧ i ≤ 99999 ∧ 1 ≤ q ∧ q ≤ 1000000
          · have HK1 := Lib.hid (show okLFrom 0 (xs.take (k + 1)) = true by rw [HS.out, HB.out]; simp; omega)
            clear HS HN
            obtain ⟨o1, o2, o3, o4⟩ := hok
            have d1 : decide (i ≤ p) = false := by simp; omega
            have d2 : decide (99999 < i) = false := by simp; omega
            have d3 : decide (q < 1) = false := by simp; omega
            have d4 : decide (1000000 < q) = false := by simp; omega
            go_wp2_with fail
            exact ⟨⟨k + 1, by omega, by go_num, HK1.out, by rw [HLS.out], hbox⟩, by simp [intOf]; omega⟩
          · have HO : Hid (okLE xs = 2) := HN.out (by rw [HS.out]; simp; intro _; omega)
            have h4 : i ≤ p ∨ (p < i ∧ 99999 < i) ∨ (p < i ∧ i ≤ 99999 ∧ q < 1) ∨ (p < i ∧ i ≤ 99999 ∧ 1 ≤ q ∧ 1000000 < q) := by omega
            clear HS HN hok
            rcases h4 with o1 | ⟨o1, o2⟩ | ⟨o1, o2, o3⟩ | ⟨o1, o2, o3, o4⟩
            · have d1 : decide (i ≤ p) = true := by simp; omega
              go_wp2_with fail
              go_ret
              exact ⟨ret_int HO.out.symm, hbox⟩
            · have d1 : decide (i ≤ p) = false := by simp; omega
              have d2 : decide (99999 < i) = true := by simp; omega
              go_wp2_with fail
              go_ret
              exact ⟨ret_int HO.out.symm, hbox⟩
            · have d1 : decide (i ≤ p) = false := by simp; omega
              have d2 : decide (99999 < i) = false := by simp; omega
              have d3 : decide (q < 1) = true := by simp; omega
              go_wp2_with fail
              go_ret
              exact ⟨ret_int HO.out.symm, hbox⟩
            · have d1 : decide (i ≤ p) = false := by simp; omega
              have d2 : decide (99999 < i) = false := by simp; omega
              have d3 : decide (q < 1) = false := by simp; omega
              have d4 : decide (1000000 < q) = true := by simp; omega
              go_wp2_with fail
              go_ret
              exact ⟨ret_int HO.out.symm, hbox⟩
        · obtain rfl : k = xs.length := by omega
          have ho : okLE xs = 0 := by
            have := HB.out
            rw [List.take_length] at this
            unfold okLE okL; rw [this, if_pos]; simp; have := HD.out; omega
          have HO := Lib.hid ho
          clear ho
          go_wp2_with fail
          go_ret
          exact ⟨ret_int HO.out.symm, hbel⟩
set_option maxHeartbeats 2000000 in
theorem mayB_any (a : Option Addr) (cap : Nat) (xs : List It) (b : Option Addr) (capb : Nat) (ls : List Ln) (w : World) (hr : Reads encT 4 w a xs) (hl : xs.length ≤ maxLen) (hf : ∀ x, x ∈ xs → fitT x)
    (hr2 : Reads encL 2 w b ls) (hl2 : ls.length ≤ maxLen) (hf2 : ∀ x, x ∈ ls → fitL x) :
    Calls Try.prog 30 #[.slice a xs.length cap, .slice b ls.length capb] w fun e w' => e = .returned (.bool (ok xs && okL ls)) ∧ Below w.heap.size w w' := by
  have C := Lib.hid (fun W h => check_any a cap xs W h hl hf)
  have D := Lib.hid (fun W h => checkL_any b capb ls W h hl2 hf2)
  have HR := Lib.hid hr
  have HR2 := Lib.hid hr2
  clear hr hf hr2 hf2
  by_cases ho : ok xs = true
  · have he : okE xs = 0 := by unfold okE; rw [if_pos ho]
    rw [he] at C
    by_cases ho2 : okL ls = true
    · have he2 : okLE ls = 0 := by unfold okLE; rw [if_pos ho2]
      rw [he2] at D
      rw [ho, ho2]; clear he he2 ho ho2
      go_enter Try.func30, Try.ntmps30
      go_wp2_with fail
      refine (C.out _ HR.out).mono ?_
      rintro e w1 ⟨rfl, hb⟩
      go_wp2_with fail
      refine (D.out _ (HR2.out.below hb)).mono ?_
      rintro e w2 ⟨rfl, hb2⟩
      replace hb := bt hb hb2; clear hb2
      go_wp2_with fail
      go_ret
      exact ⟨rfl, hb⟩
    · have he2 : okLE ls = 2 := by unfold okLE; rw [if_neg ho2]
      rw [he2] at D
      have ho3 : okL ls = false := by simpa using ho2
      rw [ho, ho3]; clear he he2 ho ho2 ho3
      go_enter Try.func30, Try.ntmps30
      go_wp2_with fail
      refine (C.out _ HR.out).mono ?_
      rintro e w1 ⟨rfl, hb⟩
      go_wp2_with fail
      refine (D.out _ (HR2.out.below hb)).mono ?_
      rintro e w2 ⟨rfl, hb2⟩
      replace hb := bt hb hb2; clear hb2
      go_wp2_with fail
      go_ret
      exact ⟨rfl, hb⟩
  · have he : okE xs = 2 := by unfold okE; rw [if_neg ho]
    rw [he] at C
    have ho3 : ok xs = false := by simpa using ho
    rw [ho3]; clear he ho ho3
    go_enter Try.func30, Try.ntmps30
    go_wp2_with fail
    refine (C.out _ HR.out).mono ?_
    rintro e w1 ⟨rfl, hb⟩
    go_wp2_with fail
    go_ret
    exact ⟨rfl, hb⟩
set_option maxHeartbeats 2000000 in
theorem totalB_any (a : Option Addr) (cap : Nat) (xs : List Ln) (w : World) (hr : Reads encL 2 w a xs) (hl : xs.length ≤ maxLen) (hf : ∀ x, x ∈ xs → fitL x) :
    Calls Try.prog 18 #[.slice a xs.length cap] w fun e w' => e = .returned (.int .i64 (totalP xs)) ∧ Below w.heap.size w w' := by
  have C := Lib.hid (fun W h => checkL_any a cap xs W h hl hf)
  have HR := Lib.hid hr
  have HF := Lib.hid hf
  unfold maxLen at hl
  clear hr hf
  by_cases ho : okL xs = true
  · have he : okLE xs = 0 := by unfold okLE; rw [if_pos ho]
    have ht : totalP xs = sumF xs := by unfold totalP; rw [if_pos ho]
    rw [ht]
    have h5 : xs.length ≤ 5 := by unfold okL at ho; simp at ho; omega
    have HM : Hid (∀ x, x ∈ xs → 1 ≤ x.qty ∧ x.qty ≤ 1000000) := by
      unfold okL at ho; simp at ho
      intro x hx; have := okLFrom_mem ho.2 x hx; omega
    rw [he] at C
    clear he ht ho hl
    go_enter Try.func18, Try.ntmps18
    go_wp2_with fail
    go_loopw [3, 8] (fun v3 v8 wr => ∃ (k : Nat), k ≤ xs.length ∧ v8 = .int .i64 k ∧ v3 = .int .i64 (sumF (xs.take k)) ∧ 0 ≤ sumF (xs.take k) ∧ sumF (xs.take k) ≤ 1000000 * (k : Int) ∧ Below w.heap.size w wr) (fun _ v8 _ => xs.length - (intOf v8).toNat)
    case atStart => exact ⟨0, by omega, rfl, rfl, by simp [sumF], by simp [sumF], Below.refl _ _⟩
    case round =>
      obtain ⟨k, hk, rfl, rfl, hs0, hs1, hbel⟩ := hrel
      by_cases hlt : k < xs.length
      · obtain ⟨b, off, rfl, hbl, c0, c1⟩ := (HR.out.below hbel).line k hlt
        have htk : xs.take (k + 1) = xs.take k ++ [xs[k]] := by simp
        have HS := Lib.hid ((congrArg sumF htk).trans (sumF_snoc (xs.take k) xs[k]))
        have hm := HM.out _ (List.getElem_mem hlt)
        clear htk
        generalize hx : xs[k] = x at c0 c1 HS hm
        clear hx
        generalize sumF (xs.take k) = p at HS hs0 hs1 ⊢
        obtain ⟨i, q⟩ := x
        simp only at c0 c1 HS hm
        obtain ⟨m1, m2⟩ := hm
        go_wp2_with fail
        have hbox : Below w.heap.size w (wr.alloc (.cells #[.int .i64 i, .int .i64 q] 40)) := hbel.alloc hbel.size _
        have BX := one_line wr (.int .i64 i) (.int .i64 q) 40
        generalize wr.alloc (.cells #[.int .i64 i, .int .i64 q] 40) = W0 at *
        refine (C.out _ (HR.out.below hbox)).mono ?_
        rintro e w2 ⟨rfl, hb2⟩
        obtain ⟨s0, x0, x1⟩ := BX.below hb2
        replace hbox := bt hbox hb2; clear hb2 c0 c1 BX
        go_wp2_with fail
        exact ⟨⟨k + 1, by omega, by go_num, by rw [HS.out], by rw [HS.out]; omega, by rw [HS.out]; push_cast; omega, hbox⟩, by simp [intOf]; omega⟩
      · obtain rfl : k = xs.length := by omega
        go_wp2_with fail
        go_ret
        exact ⟨ret_int (by rw [List.take_length]), hbel⟩
  · have he : okLE xs = 2 := by unfold okLE; rw [if_neg ho]
    have ht : totalP xs = 0 := by unfold totalP; rw [if_neg ho]
    rw [ht]
    rw [he] at C
    clear he ht ho
    go_enter Try.func18, Try.ntmps18
    go_wp2_with fail
    go_loopw [3, 8] (fun v3 v8 wr => ∃ (k : Nat), k ≤ xs.length ∧ v8 = .int .i64 k ∧ v3 = .int .i64 0 ∧ Below w.heap.size w wr) (fun _ v8 _ => xs.length - (intOf v8).toNat)
    case atStart => exact ⟨0, by omega, rfl, rfl, Below.refl _ _⟩
    case round =>
      obtain ⟨k, hk, rfl, rfl, hbel⟩ := hrel
      by_cases hlt : k < xs.length
      · obtain ⟨b, off, rfl, hbl, c0, c1⟩ := (HR.out.below hbel).line k hlt
        generalize xs[k] = x at c0 c1
        obtain ⟨i, q⟩ := x
        simp only at c0 c1
        go_wp2_with fail
        have hbox : Below w.heap.size w (wr.alloc (.cells #[.int .i64 i, .int .i64 q] 40)) := hbel.alloc hbel.size _
        generalize wr.alloc (.cells #[.int .i64 i, .int .i64 q] 40) = W0 at *
        refine (C.out _ (HR.out.below hbox)).mono ?_
        rintro e w2 ⟨rfl, hb2⟩
        replace hbox := bt hbox hb2; clear hb2 c0 c1
        go_wp2_with fail
        exact ⟨⟨k + 1, by omega, by go_num, rfl, hbox⟩, by simp [intOf]; omega⟩
      · obtain rfl : k = xs.length := by omega
        go_wp2_with fail
        go_ret
        exact ⟨rfl, hbel⟩
end Go.Proofs.Ytfnmaemeofkagaa
