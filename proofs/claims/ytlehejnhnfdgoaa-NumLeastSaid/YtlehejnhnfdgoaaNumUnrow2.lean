/- Numbers as bytes: the contract of num.Unrow. -/
import Derived.Test.YtlehejnhnfdgoaaNumUnrow
namespace Go.Proofs.Ytlehejnhnfdgoaa
open Go.ChangeShapes Go.WideShapes Go.ChangeAt Go.RowKit
open NumP
set_option maxRecDepth 100000
set_option maxHeartbeats 2000000 in
theorem unrow_any (s : ByteArray) (p top : Int) (w : World) (hs : s.size ≤ 1000000) (ht : -9223372036854775808 ≤ top ∧ top ≤ 9223372036854775807) :
    Calls Try.prog 15 #[.string s, .int .i64 p, .int .i64 top] w (GotInts (unrowN (bl s) p top) w) := by
  have hbd := getN_bd (bl s) p (by rw [bl_len]; omega)
  by_cases h1 : (getN (bl s) p).2.2 ≠ 0
  · have hg : unrowN (bl s) p top = ([], 0, (getN (bl s) p).2.2) := by unfold unrowN; rw [if_pos h1]
    rw [hg]
    have h1b : ((getN (bl s) p).2.2 != 0) = true := by simpa using h1
    have GR := Lib.hid (get_any s p w hs)
    generalize getN (bl s) p = g at *
    clear hg h1
    go_enter Try.func15, Try.ntmps15
    go_wp2_with fail
    refine GR.out.mono ?_
    rintro e w1 ⟨rfl, rfl⟩
    go_wp2_with fail
    go_ret3
    exact ⟨none, 0, rfl, Nat.le_refl _, Nat.zero_le _, Reads.nil _ _ _ _, Below.refl _ _⟩
  · have h10 : (getN (bl s) p).2.2 = 0 := by simpa using h1
    by_cases h2 : (getN (bl s) p).1 > 1000 ∨ ((getN (bl s) p).1 > top ∧ (getN (bl s) p).1 > 0)
    · have hg : unrowN (bl s) p top = ([], 0, 3) := by unfold unrowN; rw [if_neg h1, if_pos h2]
      rw [hg]
      have GR := Lib.hid (get_any s p w hs)
      generalize getN (bl s) p = g at *
      obtain ⟨n, to, e0⟩ := g
      simp only at h10 h2 hbd GR
      subst h10
      clear hg h1
      have HGot : GotInts ([], 0, 3) w (.returned (.tuple #[.slice none 0 0, .int .i64 0, .int .i64 3])) w := ⟨none, 0, rfl, Nat.le_refl _, Nat.zero_le _, Reads.nil _ _ _ _, Below.refl _ _⟩
      have HG := Lib.hid HGot
      clear HGot
      by_cases h3 : 1000 < n
      · go_enter Try.func15, Try.ntmps15
        go_wp2_with fail
        refine GR.out.mono ?_
        rintro e w1 ⟨rfl, rfl⟩
        go_wp2_with fail
        go_ret3
        exact HG.out
      · have h4 : top < n ∧ 0 < n := by omega
        obtain ⟨h4, h5⟩ := h4
        clear h2
        go_enter Try.func15, Try.ntmps15
        go_wp2_with fail
        refine GR.out.mono ?_
        rintro e w1 ⟨rfl, rfl⟩
        go_wp2_with fail
        go_ret3
        exact HG.out
    · have hg : unrowN (bl s) p top = unrowF (bl s) (getN (bl s) p).1.toNat (getN (bl s) p).2.1 [] := by unfold unrowN; rw [if_neg h1, if_neg h2]
      have GR := Lib.hid (get_any s p w hs)
      generalize getN (bl s) p = g at *
      obtain ⟨n, to, e0⟩ := g
      simp only at h10 h2 hbd GR hg
      subst h10
      obtain ⟨N, rfl⟩ := Int.eq_ofNat_of_zero_le hbd.1
      rw [Int.toNat_natCast] at hg
      have HG := Lib.hid hg
      have hN : (N : Int) ≤ 1000 := by omega
      have hx : (N : Int) ≤ top ∨ (top < (N : Int) ∧ (N : Int) = 0) := by omega
      clear hg h1 h2
      obtain ⟨i0, hi, hz0, hz1, hz2⟩ := info_parts infoI
      have hd1 : decide ((1000 : Int) < (N : Int)) = false := by simp; omega
      have hpost : ∀ (e : Ending) (w' : World) (v : Value) (acc : List Int) (to' : Int), e = .returned (.tuple #[v, .int .i64 to', .int .i64 0]) → w'.ownsRow w.heap.size 3 1 v acc.length (acc.flatMap encI) → unrowN (bl s) p top = (acc, to', 0) → Below w.heap.size w w' → GotInts (unrowN (bl s) p top) w e w' := by
        intro e w' v acc to' he hown hu hbel
        obtain ⟨a, cap, rfl, h1, h2, h3⟩ := Reads.of_owns encI_len rfl hown
        rw [hu]
        exact ⟨a, cap, he, h1, h2, h3, hbel⟩
      have HP := Lib.hid hpost
      clear hpost
      go_enter Try.func15, Try.ntmps15
      go_wp2_with fail
      refine GR.out.mono ?_
      rintro e w1 ⟨rfl, rfl⟩
      rcases hx with hx | ⟨hx, hx0⟩
      all_goals
        go_wp2_with fail
        go_loopw [6, 7, 29] (fun v6 v7 v29 wr => ∃ (k : Nat) (t : Int) (acc : List Int), k ≤ N ∧ v29 = .int .i64 k ∧ v7 = .int .i64 t ∧ acc.length = k ∧ wr.ownsRow w.heap.size 3 1 v6 acc.length (acc.flatMap encI) ∧ unrowN (bl s) p top = unrowF (bl s) (N - k) t acc ∧ 0 ≤ t ∧ t ≤ 1000000 ∧ Below w.heap.size w wr) (fun _ _ v29 _ => N - (intOf v29).toNat)
        case atStart => exact ⟨0, to, [], by omega, rfl, rfl, rfl, World.ownsRow_nil _ _ _ _, HG.out, by omega, by omega, Below.refl _ _⟩
        case round =>
          obtain ⟨k, t, acc, hk, rfl, rfl, hacc, hown, hu, ht0, ht1, hbel⟩ := hrel
          have HOWN := Lib.hid hown
          have HACC := Lib.hid hacc
          have hak : acc.length ≤ 1000 := by omega
          have HU := Lib.hid hu
          clear hown hu HG hacc
          by_cases hlt : k < N
          · first
            | (exfalso; omega)
            | (
              have hgb := getN_bd (bl s) t (by rw [bl_len]; omega)
              have GR2 := Lib.hid (get_any s t wr hs)
              have hstep : unrowN (bl s) p top = if (getN (bl s) t).2.2 ≠ 0 then ([], 0, (getN (bl s) t).2.2) else unrowF (bl s) (N - (k + 1)) (getN (bl s) t).2.1 (acc ++ [(getN (bl s) t).1]) := by
                rw [HU.out, show N - k = (N - (k + 1)) + 1 by omega, unrowF]
              generalize getN (bl s) t = g at *
              obtain ⟨x, t2, e2⟩ := g
              simp only at hgb hstep GR2
              by_cases he2 : e2 = 0
              · subst he2
                simp only [ne_eq, not_true_eq_false, if_false] at hstep
                have HS := Lib.hid hstep
                clear hstep
                go_wp2_with fail
                refine GR2.out.mono ?_
                rintro e w1 ⟨rfl, rfl⟩
                go_wp2_with (at_builtin; refine wpList_append_own _ rfl _ _ 34 rfl w.heap.size 3 i0 (.int .i64 0) 1 8 Try.underlying34 hi hz0 hz1 hz2 rfl (by decide) _ _ _ rfl (HOWN.out.alloc _) ⟨wr.heap.size, 0, none⟩ 1 1 [.int .i64 x] rfl rfl ?c1 ?c2 ?c3 ?c4 ?c5 ?_)
                case c1 => exact new_cells _ [.int .i64 x] _
                case c2 => simp [Value.oneCell']
                case c3 => unfold maxLen; omega
                case c4 => omega
                case c5 => have := hbel.size; simp; omega
                intro v' w2 hown' hgrow _
                have hown2 : w2.ownsRow w.heap.size 3 1 v' (acc ++ [x]).length ((acc ++ [x]).flatMap encI) := by
                  rw [List.length_append, List.flatMap_append]; exact hown'
                have hbel2 : Below w.heap.size w w2 := ((hbel.alloc hbel.size _).grown hgrow (by have := hbel.size; simp; omega) (fun k hk => (HOWN.out.lt k hk).1))
                have HOWN2 := Lib.hid hown2
                clear hown2 hown' hgrow
                go_wp2_with fail
                exact ⟨⟨k + 1, t2, acc ++ [x], by omega, by go_num, rfl, by rw [List.length_append, HACC.out]; rfl, HOWN2.out, HS.out, by omega, by omega, hbel2⟩, by simp [intOf]; omega⟩
              · rw [if_pos he2] at hstep
                have he2b : (e2 != 0) = true := by simpa using he2
                have HGot : GotInts (unrowN (bl s) p top) w (.returned (.tuple #[.slice none 0 0, .int .i64 0, .int .i64 e2])) wr := by
                  rw [hstep]; exact ⟨none, 0, rfl, Nat.le_refl _, Nat.zero_le _, Reads.nil _ _ _ _, hbel⟩
                have HG := Lib.hid HGot
                clear HGot hstep he2
                go_wp2_with fail
                refine GR2.out.mono ?_
                rintro e w1 ⟨rfl, rfl⟩
                go_wp2_with fail
                go_ret3
                exact HG.out
              )
          · obtain rfl : k = N := by omega
            have hu2 := HU.out
            rw [Nat.sub_self, unrowF] at hu2
            have HU2 := Lib.hid hu2
            clear hu2
            go_wp2_with fail
            go_ret3
            exact HP.out _ _ _ _ _ rfl HOWN.out HU2.out hbel
end Go.Proofs.Ytlehejnhnfdgoaa
