/- slices.Clone at api.Item. -/
import Derived.Test.YtfeeohbapnolcaaRecIt
namespace Go.Proofs.Ytfeeohbapnolcaa
set_option linter.unusedVariables false
set_option linter.unusedSimpArgs false
open Go.ChangeShapes Go.WideShapes Go.ChangeAt Go.RowKit
open StockP
set_option maxRecDepth 100000
set_option maxHeartbeats 1000000 in
theorem cloneIt_any (a : Option Addr) (cap : Nat) (xs : List It) (w : World) (hr : Reads encIt 4 w a xs) (hl : xs.length ≤ 1000000) :
    Calls Try.prog 28 #[.slice a xs.length cap] w fun e w' => ∃ v, e = .returned v ∧ w'.ownsRow w.heap.size 34 4 v xs.length (xs.flatMap encIt) ∧ Below w.heap.size w w' := by
  cases a with
  | none =>
    have hx : xs = [] := by
      cases xs with
      | nil => rfl
      | cons x xs => obtain ⟨b, off, h, _⟩ := hr 0 (by simp); cases h
    subst hx
    have hnil := Lib.run_eql_slice_nil (P := Try.prog) w 22 34 none 0 cap 0 0 Try.underlying22
    have HP := Lib.hid (World.ownsRow_nil w w.heap.size 34 4)
    go_enter Try.func28, Try.ntmps28
    go_wp2_with fail
    go_ret
    exact ⟨_, rfl, HP.out, Below.refl _ _⟩
  | some ad =>
    obtain ⟨i0, hi, hz0, hz1, hz2⟩ := info_parts infoIt
    have hnil := Lib.run_eql_slice_nil (P := Try.prog) w 22 34 (some ad) xs.length cap 0 0 Try.underlying22
    have HR := Lib.hid hr
    clear hr
    go_enter Try.func28, Try.ntmps28
    have hfl := HR.out.flat (by omega) encIt_len
    have HFL := Lib.hid hfl
    clear hfl
    go_wp2_with (at_builtin; refine wpList_append_own _ rfl _ _ 22 rfl w.heap.size 34 i0 (.agg #[.int .i64 0, .int .i64 0, .int .i64 0, .int .i64 0]) 4 32 Try.underlying22 hi hz0 hz1 hz2 rfl (by decide) _ _ _ rfl (World.ownsRow_made w #[] 0 (Nat.le_refl _) (by unfold maxLen; omega) rfl) ad xs.length cap (xs.flatMap encIt) rfl ?c0 ?c1 ?c2 ?c3 ?c4 ?c5 ?_)
    case c0 => rw [flat_len encIt 4 encIt_len]
    case c1 =>
      intro j u hu
      obtain ⟨h1, h2⟩ := HFL.out j u hu
      have h3 : (ad.add j).block = ad.block := by unfold Addr.add; split <;> rfl
      rw [World.cell?_alloc_lt _ _ _ (by rw [h3]; exact h1)]
      exact h2
    case c2 =>
      intro u hu
      obtain ⟨x, _, hx⟩ := List.mem_flatMap.1 hu
      simp [encIt] at hx
      rcases hx with rfl | rfl | rfl | rfl <;> rfl
    case c3 => unfold maxLen; omega
    case c4 => omega
    case c5 => simp
    intro v' w2 hown' hgrow _
    have hbel : Below w.heap.size w w2 := ((Below.refl _ _).alloc (Nat.le_refl _) _).grown hgrow (by simp) (fun k hk => by simp [Value.ownBlock] at hk; omega)
    have HO := Lib.hid hown'
    clear hown' hgrow
    go_wp2_with fail
    go_ret
    exact ⟨_, rfl, HO.out, hbel⟩
end Go.Proofs.Ytfeeohbapnolcaa
