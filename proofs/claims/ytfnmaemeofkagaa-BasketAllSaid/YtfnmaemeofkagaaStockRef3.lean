/- The stock: the reference's Put, item, Goes. -/
import Derived.Test.YtfnmaemeofkagaaStockRef2
import Derived.Test.YtfnmaemeofkagaaStockDo
namespace Go.Proofs.Ytfnmaemeofkagaa
open Go.ChangeShapes Go.WideShapes Go.ChangeAt Go.RowKit
open StockP
set_option maxRecDepth 100000
theorem bdrewN {B : Nat} {w w2 : World} {n : Nat} (h : Below B w w2) : Below B w (w2.drewN n) := ⟨h.os, h.tape, h.output, h.size, h.block⟩
/-- one more element behind an own row -/
theorem own_snoc {w : World} {base : Nat} {v : Value} {acc : List It} {x : It} (h : w.ownsRow base 42 4 v (acc.length + 1) (acc.flatMap encT ++ encT x)) : w.ownsRow base 42 4 v (acc ++ [x]).length ((acc ++ [x]).flatMap encT) := by
  rw [List.length_append, List.flatMap_append]; simpa using h
set_option maxHeartbeats 8000000 in
theorem putR_any (a : Option Addr) (cap : Nat) (xs : List It) (i f h g : Int) (w : World) (hr : Reads encT 4 w a xs) (hl : xs.length ≤ 1000) :
    Calls Try.prog 39 #[.slice a xs.length cap, itv i f h g] w fun e w' => ∃ v, e = .returned v ∧ IsSl encT 4 w' v (put xs ⟨i, f, h, g⟩) ∧ Above w.heap.size v ∧ Below w.heap.size w w' := by
  have HR := Lib.hid hr
  clear hr
  obtain ⟨i0, hi, hz0, hz1, hz2⟩ := info_parts infoT
  have hxl : (xs.length : Int) ≤ 1000 := by omega
  go_enter Try.func39, Try.ntmps39
  go_wp2_with fail
  have BX := one_item w (.int .i64 i) (.int .i64 f) (.int .i64 h) (.int .i64 g) 42
  have hbx : Below w.heap.size w (w.alloc (.cells #[.int .i64 i, .int .i64 f, .int .i64 h, .int .i64 g] 42)) := (Below.refl _ _).alloc (Nat.le_refl _) _
  generalize w.alloc (.cells #[.int .i64 i, .int .i64 f, .int .i64 h, .int .i64 g] 42) = w0 at *
  have hs0 := BX.size
  have HBX := Lib.hid BX
  have HBB := Lib.hid hbx
  clear BX hbx
  go_loopw [5, 6] (fun v5 v6 wr => ∃ (k : Nat), k ≤ xs.length ∧ v6 = .int .i64 k ∧ (∀ j, (hj : j < xs.length) → j < k → xs[j].id < i) ∧ wr.ownsRow w0.heap.size 42 4 v5 (xs.take k).length ((xs.take k).flatMap encT) ∧ Below w0.heap.size w0 wr) (fun _ v6 _ => xs.length - (intOf v6).toNat)
  case atStart => exact ⟨0, by omega, rfl, by intro j _ h; omega, World.ownsRow_nil _ _ _ _, Below.refl _ _⟩
  case round =>
    obtain ⟨k, hk, rfl, hb, hown, hbel⟩ := hrel
    have HB := Lib.hid hb
    have HOWN := Lib.hid hown
    have hws := hbel.size
    obtain ⟨s0, x0, x1, x2, x3⟩ := HBX.out.below hbel
    have htl : (xs.take k).length = k := by rw [List.length_take]; omega
    clear hb hown
    by_cases hlt : k < xs.length
    · obtain ⟨b, off, rfl, hbl, c0, c1, c2, c3⟩ := (HR.out.below (bt HBB.out hbel)).item k hlt
      have htk : xs.take (k + 1) = xs.take k ++ [xs[k]] := by simp
      have HTK := Lib.hid htk
      clear htk
      generalize hx : xs[k] = x at c0 c1 c2 c3 HTK
      have HXK := Lib.hid hx
      clear hx
      obtain ⟨i1, i2, i3, i4⟩ := x
      simp only at c0 c1 c2 c3
      by_cases hxi : i1 < i
      · have d1 : decide (i1 < i) = true := by simpa using hxi
        go_wp2_with fail
        go_quiet (fail)
        go_wp2_with (at_builtin; refine wpList_append_own _ rfl _ _ 22 rfl w0.heap.size 42 i0 (itv 0 0 0 0) 4 32 Try.underlying22 hi hz0 hz1 hz2 rfl (by decide) _ _ _ rfl (HOWN.out.alloc _) ⟨wr.heap.size, 0, none⟩ 1 1 [.int .i64 i1, .int .i64 i2, .int .i64 i3, .int .i64 i4] rfl rfl ?c1 ?c2 ?c3 ?c4 ?c5 ?_)
        case c1 => exact new_cells wr [.int .i64 i1, .int .i64 i2, .int .i64 i3, .int .i64 i4] _
        case c2 => simp [Value.oneCell']
        case c3 => unfold maxLen; omega
        case c4 => omega
        case c5 => simp; omega
        intro v' w3 hown' hgrow _
        have hown2 := own_snoc (x := ⟨i1, i2, i3, i4⟩) (acc := xs.take k) (by rw [htl]; exact hown')
        rw [← HTK.out] at hown2
        have hbel2 : Below w0.heap.size w0 w3 := (((bdrewN hbel).alloc hbel.size _).grown hgrow (by simp; omega) (fun k hk => (HOWN.out.lt k hk).1))
        have HOWN2 := Lib.hid hown2
        clear hown2 hown' hgrow
        go_wp2_with fail
        refine ⟨⟨k + 1, by omega, by go_num, ?_, HOWN2.out, hbel2⟩, by simp [intOf]; omega⟩
        intro j hj hjk
        by_cases e : j = k
        · subst e; rw [HXK.out]; exact hxi
        · exact HB.out j hj (by omega)
      · have d1 : decide (i1 < i) = false := by simpa using hxi
        have htw : put xs ⟨i, f, h, g⟩ = xs.take k ++ ⟨i, f, h, g⟩ :: xs.filter fun y => decide (i < y.id) := by
          unfold put
          rw [takeWhile_take (fun y => decide (y.id < i)) xs k (fun j hj hjk => by simpa using HB.out j hj hjk) (by omega) (fun h => by rw [HXK.out]; exact d1)]
        have HTW := Lib.hid htw
        clear htw
        go_wp2_with fail
        go_quiet (fail)
        go_wp2_with (at_builtin; refine wpList_append_own _ rfl _ _ 22 rfl w0.heap.size 42 i0 (itv 0 0 0 0) 4 32 Try.underlying22 hi hz0 hz1 hz2 rfl (by decide) _ _ _ rfl (HOWN.out.alloc _) ⟨wr.heap.size, 0, none⟩ 1 1 [.int .i64 i, .int .i64 f, .int .i64 h, .int .i64 g] rfl rfl ?c1p ?c2p ?c3p ?c4p ?c5p ?_)
        case c1p => exact new_cells wr [.int .i64 i, .int .i64 f, .int .i64 h, .int .i64 g] _
        case c2p => simp [Value.oneCell']
        case c3p => unfold maxLen; omega
        case c4p => omega
        case c5p => simp; omega
        intro v' w3 hown' hgrow _
        have hown2 := own_snoc (x := ⟨i, f, h, g⟩) (acc := xs.take k) (by rw [htl]; exact hown')
        have hbel2 : Below w0.heap.size w0 w3 := (((bdrewN hbel).alloc hbel.size _).grown hgrow (by simp; omega) (fun k hk => (HOWN.out.lt k hk).1))
        have HOWN2 := Lib.hid hown2
        have HB2 := Lib.hid hbel2
        clear hown2 hown' hgrow hbel2 x0 x1 x2 x3 s0
        go_wp2_with fail
        go_loopw [5, 7] (fun v5 v7 wq => ∃ (m : Nat) (acc : List It), m ≤ xs.length ∧ v7 = .int .i64 m ∧ acc = xs.take k ++ ⟨i, f, h, g⟩ :: (xs.take m).filter (fun y => decide (i < y.id)) ∧ wq.ownsRow w0.heap.size 42 4 v5 acc.length (acc.flatMap encT) ∧ Below w0.heap.size w0 wq) (fun _ v7 _ => xs.length - (intOf v7).toNat)
        case atStart => exact ⟨0, xs.take k ++ [⟨i, f, h, g⟩], by omega, rfl, by simp, HOWN2.out, HB2.out⟩
        case round =>
          obtain ⟨m, acc, hm, rfl, hacc, hown3, hbel3⟩ := hrel
          have hal : acc.length ≤ 2001 := by
            have h1 := List.length_filter_le (fun y : It => decide (i < y.id)) (xs.take m)
            have h2 : (xs.take m).length ≤ xs.length := List.length_take_le' _ _
            rw [hacc, List.length_append, List.length_cons]; omega
          have HACC := Lib.hid hacc
          have HO3 := Lib.hid hown3
          have hws3 := hbel3.size
          obtain ⟨s0, x0, x1, x2, x3⟩ := HBX.out.below hbel3
          clear hacc hown3
          by_cases hlt2 : m < xs.length
          · obtain ⟨b3, off3, hb3e, hbl3, e0, e1, e2, e3⟩ := (HR.out.below (bt HBB.out hbel3)).item m hlt2
            obtain ⟨rfl, rfl⟩ : b3 = b ∧ off3 = off := by injection hb3e with h1; injection h1 with h2 h3; exact ⟨h2.symm, h3.symm⟩
            have HFT := Lib.hid (filter_take (fun y => decide (i < y.id)) xs m hlt2)
            generalize xs[m] = y at e0 e1 e2 e3 HFT
            obtain ⟨j1, j2, j3, j4⟩ := y
            simp only at e0 e1 e2 e3
            by_cases hyi : i < j1
            · have d2 : decide (i < j1) = true := by simpa using hyi
              have ha2 : acc ++ [⟨j1, j2, j3, j4⟩] = xs.take k ++ ⟨i, f, h, g⟩ :: (xs.take (m + 1)).filter (fun y => decide (i < y.id)) := by
                rw [HFT.out, if_pos (by exact d2), HACC.out]; simp
              have HA2 := Lib.hid ha2
              clear ha2
              go_wp2_with fail
              go_quiet (fail)
              go_wp2_with (at_builtin; refine wpList_append_own _ rfl _ _ 22 rfl w0.heap.size 42 i0 (itv 0 0 0 0) 4 32 Try.underlying22 hi hz0 hz1 hz2 rfl (by decide) _ _ _ rfl (HO3.out.alloc _) ⟨wr.heap.size, 0, none⟩ 1 1 [.int .i64 j1, .int .i64 j2, .int .i64 j3, .int .i64 j4] rfl rfl ?c1pb ?c2pb ?c3pb ?c4pb ?c5pb ?_)
              case c1pb => exact new_cells wr [.int .i64 j1, .int .i64 j2, .int .i64 j3, .int .i64 j4] _
              case c2pb => simp [Value.oneCell']
              case c3pb => unfold maxLen; omega
              case c4pb => omega
              case c5pb => simp; omega

              intro v4 w4 hown4 hgrow4 _
              have hown5 := own_snoc (x := ⟨j1, j2, j3, j4⟩) hown4
              have hbel5 : Below w0.heap.size w0 w4 := (((bdrewN hbel3).alloc hbel3.size _).grown hgrow4 (by simp; omega) (fun k hk => (HO3.out.lt k hk).1))
              have HOWN5 := Lib.hid hown5
              clear hown5 hown4 hgrow4
              go_wp2_with fail
              exact ⟨⟨m + 1, acc ++ [⟨j1, j2, j3, j4⟩], by omega, by go_num, HA2.out, HOWN5.out, hbel5⟩, by simp [intOf]; omega⟩
            · have d2 : decide (i < j1) = false := by simpa using hyi
              have ha2 : acc = xs.take k ++ ⟨i, f, h, g⟩ :: (xs.take (m + 1)).filter (fun y => decide (i < y.id)) := by
                rw [HFT.out, if_neg (by simp only; rw [d2]; decide), HACC.out]; simp
              have HA2 := Lib.hid ha2
              clear ha2
              go_wp2_with fail
              go_quiet (fail)
              go_wp2_with fail
              exact ⟨⟨m + 1, acc, by omega, by go_num, HA2.out, HO3.out, bdrewN hbel3⟩, by simp [intOf]; omega⟩
          · obtain rfl : m = xs.length := by omega
            have hfin : put xs ⟨i, f, h, g⟩ = acc := by rw [HTW.out, HACC.out, List.take_length]
            have HFIN := Lib.hid hfin
            clear hfin
            go_wp2_with fail
            rw [HFIN.out]
            go_ret
            exact ⟨_, rfl, encT_sl HO3.out, (Above.owns HO3.out).mono (by omega), (HBB.out.trans (hbel3.mono (by omega)))⟩
    · have hke : k = xs.length := by omega
      have hd0 : decide (k < xs.length) = false := by simp; omega
      have htw : put xs ⟨i, f, h, g⟩ = xs.take k ++ ⟨i, f, h, g⟩ :: xs.filter fun y => decide (i < y.id) := by
        unfold put
        rw [takeWhile_take (fun y => decide (y.id < i)) xs k (fun j hj hjk => by simpa using HB.out j hj hjk) (by omega) (fun h => by omega)]
      have HTW := Lib.hid htw
      clear htw
      clear hke
      go_wp2_with fail
      go_quiet (fail)
      go_wp2_with (at_builtin; refine wpList_append_own _ rfl _ _ 22 rfl w0.heap.size 42 i0 (itv 0 0 0 0) 4 32 Try.underlying22 hi hz0 hz1 hz2 rfl (by decide) _ _ _ rfl (HOWN.out.alloc _) ⟨wr.heap.size, 0, none⟩ 1 1 [.int .i64 i, .int .i64 f, .int .i64 h, .int .i64 g] rfl rfl ?c1q ?c2q ?c3q ?c4q ?c5q ?_)
      case c1q => exact new_cells wr [.int .i64 i, .int .i64 f, .int .i64 h, .int .i64 g] _
      case c2q => simp [Value.oneCell']
      case c3q => unfold maxLen; omega
      case c4q => omega
      case c5q => simp; omega
      intro v' w3 hown' hgrow _
      have hown2 := own_snoc (x := ⟨i, f, h, g⟩) (acc := xs.take k) (by rw [htl]; exact hown')
      have hbel2 : Below w0.heap.size w0 w3 := (((bdrewN hbel).alloc hbel.size _).grown hgrow (by simp; omega) (fun k hk => (HOWN.out.lt k hk).1))
      have HOWN2 := Lib.hid hown2
      have HB2 := Lib.hid hbel2
      clear hown2 hown' hgrow hbel2 x0 x1 x2 x3 s0
      go_wp2_with fail
      go_loopw [5, 7] (fun v5 v7 wq => ∃ (m : Nat) (acc : List It), m ≤ xs.length ∧ v7 = .int .i64 m ∧ acc = xs.take k ++ ⟨i, f, h, g⟩ :: (xs.take m).filter (fun y => decide (i < y.id)) ∧ wq.ownsRow w0.heap.size 42 4 v5 acc.length (acc.flatMap encT) ∧ Below w0.heap.size w0 wq) (fun _ v7 _ => xs.length - (intOf v7).toNat)
      case atStart => exact ⟨0, xs.take k ++ [⟨i, f, h, g⟩], by omega, rfl, by simp, HOWN2.out, HB2.out⟩
      case round =>
        obtain ⟨m, acc, hm, rfl, hacc, hown3, hbel3⟩ := hrel
        have hal : acc.length ≤ 2001 := by
          have h1 := List.length_filter_le (fun y : It => decide (i < y.id)) (xs.take m)
          have h2 : (xs.take m).length ≤ xs.length := List.length_take_le' _ _
          rw [hacc, List.length_append, List.length_cons]; omega
        have HACC := Lib.hid hacc
        have HO3 := Lib.hid hown3
        have hws3 := hbel3.size
        obtain ⟨s0, x0, x1, x2, x3⟩ := HBX.out.below hbel3
        clear hacc hown3
        by_cases hlt2 : m < xs.length
        · obtain ⟨b3, off3, hb3e, hbl3, e0, e1, e2, e3⟩ := (HR.out.below (bt HBB.out hbel3)).item m hlt2
          subst hb3e
          have HFT := Lib.hid (filter_take (fun y => decide (i < y.id)) xs m hlt2)
          generalize xs[m] = y at e0 e1 e2 e3 HFT
          obtain ⟨j1, j2, j3, j4⟩ := y
          simp only at e0 e1 e2 e3
          by_cases hyi : i < j1
          · have d2 : decide (i < j1) = true := by simpa using hyi
            have ha2 : acc ++ [⟨j1, j2, j3, j4⟩] = xs.take k ++ ⟨i, f, h, g⟩ :: (xs.take (m + 1)).filter (fun y => decide (i < y.id)) := by
              rw [HFT.out, if_pos (by exact d2), HACC.out]; simp
            have HA2 := Lib.hid ha2
            clear ha2
            go_wp2_with fail
            go_quiet (fail)
            go_wp2_with (at_builtin; refine wpList_append_own _ rfl _ _ 22 rfl w0.heap.size 42 i0 (itv 0 0 0 0) 4 32 Try.underlying22 hi hz0 hz1 hz2 rfl (by decide) _ _ _ rfl (HO3.out.alloc _) ⟨wr.heap.size, 0, none⟩ 1 1 [.int .i64 j1, .int .i64 j2, .int .i64 j3, .int .i64 j4] rfl rfl ?c1qb ?c2qb ?c3qb ?c4qb ?c5qb ?_)
            case c1qb => exact new_cells wr [.int .i64 j1, .int .i64 j2, .int .i64 j3, .int .i64 j4] _
            case c2qb => simp [Value.oneCell']
            case c3qb => unfold maxLen; omega
            case c4qb => omega
            case c5qb => simp; omega

            intro v4 w4 hown4 hgrow4 _
            have hown5 := own_snoc (x := ⟨j1, j2, j3, j4⟩) hown4
            have hbel5 : Below w0.heap.size w0 w4 := (((bdrewN hbel3).alloc hbel3.size _).grown hgrow4 (by simp; omega) (fun k hk => (HO3.out.lt k hk).1))
            have HOWN5 := Lib.hid hown5
            clear hown5 hown4 hgrow4
            go_wp2_with fail
            exact ⟨⟨m + 1, acc ++ [⟨j1, j2, j3, j4⟩], by omega, by go_num, HA2.out, HOWN5.out, hbel5⟩, by simp [intOf]; omega⟩
          · have d2 : decide (i < j1) = false := by simpa using hyi
            have ha2 : acc = xs.take k ++ ⟨i, f, h, g⟩ :: (xs.take (m + 1)).filter (fun y => decide (i < y.id)) := by
              rw [HFT.out, if_neg (by simp only; rw [d2]; decide), HACC.out]; simp
            have HA2 := Lib.hid ha2
            clear ha2
            go_wp2_with fail
            go_quiet (fail)
            go_wp2_with fail
            exact ⟨⟨m + 1, acc, by omega, by go_num, HA2.out, HO3.out, bdrewN hbel3⟩, by simp [intOf]; omega⟩
        · obtain rfl : m = xs.length := by omega
          have hfin : put xs ⟨i, f, h, g⟩ = acc := by rw [HTW.out, HACC.out, List.take_length]
          have HFIN := Lib.hid hfin
          clear hfin
          go_wp2_with fail
          rw [HFIN.out]
          go_ret
          exact ⟨_, rfl, encT_sl HO3.out, (Above.owns HO3.out).mono (by omega), (HBB.out.trans (hbel3.mono (by omega)))⟩
end Go.Proofs.Ytfnmaemeofkagaa
