/- slices.Clone at api.Session. -/
import Derived.Test.YtjccjlflnlddpaaRecSe
namespace Go.Proofs.Ytjccjlflnlddpaa
set_option linter.unusedVariables false
set_option linter.unusedSimpArgs false
open Go.ChangeShapes Go.WideShapes Go.ChangeAt Go.RowKit
open SessP
set_option maxRecDepth 100000
set_option maxHeartbeats 1000000 in
theorem cloneSe_any (a : Option Addr) (cap : Nat) (xs : List Se) (w : World) (hr : Reads encSe 3 w a xs) (hl : xs.length ≤ 1000000) :
    Calls Try.prog 20 #[.slice a xs.length cap] w fun e w' => ∃ v, e = .returned v ∧ w'.ownsRow w.heap.size 24 3 v xs.length (xs.flatMap encSe) ∧ Below w.heap.size w w' := by
  cases a with
  | none =>
    have hx : xs = [] := by
      cases xs with
      | nil => rfl
      | cons x xs => obtain ⟨b, off, h, _⟩ := hr 0 (by simp); cases h
    subst hx
    have hnil := Lib.run_eql_slice_nil (P := Try.prog) w 22 24 none 0 cap 0 0 Try.underlying22
    have HP := Lib.hid (World.ownsRow_nil w w.heap.size 24 3)
    go_enter Try.func20, Try.ntmps20
    go_wp2_with fail
    go_ret
    exact ⟨_, rfl, HP.out, Below.refl _ _⟩
  | some ad =>
    obtain ⟨i0, hi, hz0, hz1, hz2⟩ := info_parts infoSe
    have hnil := Lib.run_eql_slice_nil (P := Try.prog) w 22 24 (some ad) xs.length cap 0 0 Try.underlying22
    have HR := Lib.hid hr
    clear hr
    go_enter Try.func20, Try.ntmps20
    have hfl := HR.out.flat (by omega) encSe_len
    have HFL := Lib.hid hfl
    clear hfl
    go_wp2_with (at_builtin; refine wpList_append_own _ rfl _ _ 22 rfl w.heap.size 24 i0 (.agg #[.int .i64 0, .int .i64 0, .string ⟨#[]⟩]) 3 32 Try.underlying22 hi hz0 hz1 hz2 rfl (by decide) _ _ _ rfl (World.ownsRow_made w #[] 0 (Nat.le_refl _) (by unfold maxLen; omega) rfl) ad xs.length cap (xs.flatMap encSe) rfl ?c0 ?c1 ?c2 ?c3 ?c4 ?c5 ?_)
    case c0 => rw [flat_len encSe 3 encSe_len]
    case c1 =>
      intro j u hu
      obtain ⟨h1, h2⟩ := HFL.out j u hu
      have h3 : (ad.add j).block = ad.block := by unfold Addr.add; split <;> rfl
      rw [World.cell?_alloc_lt _ _ _ (by rw [h3]; exact h1)]
      exact h2
    case c2 =>
      intro u hu
      obtain ⟨x, _, hx⟩ := List.mem_flatMap.1 hu
      simp [encSe] at hx
      rcases hx with rfl | rfl | rfl <;> rfl
    case c3 => unfold maxLen; omega
    case c4 => omega
    case c5 => simp
    intro v' w2 hown' hgrow _
    have hbel : Below w.heap.size w w2 := ((Below.refl _ _).alloc (Nat.le_refl _) _).grown hgrow (by simp) (fun k hk => by simp [Value.ownBlock] at hk; omega)
    have HO := Lib.hid hown'
    clear hown' hgrow
    go_wp2_with fail
    go_ret
    exact ⟨_, rfl, HO.out, hbel⟩
end Go.Proofs.Ytjccjlflnlddpaa
