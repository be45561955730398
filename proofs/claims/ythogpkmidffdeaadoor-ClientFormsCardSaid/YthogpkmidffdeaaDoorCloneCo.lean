/- slices.Clone[[]rubato/client.Op,rubato/client.Op]. -/
import Derived.Test.YthogpkmidffdeaaDoorCloneLib
import Derived.Test.YthogpkmidffdeaaDoorAmCo
import Derived.Lib.Hide
namespace Go.Proofs.YthogpkmidffdeaaDoor
set_option linter.unusedVariables false
set_option linter.unusedSimpArgs false
open Go.ChangeShapes Go.WideShapes Go.ChangeAt Go.RowKit
set_option linter.unusedVariables false
set_option linter.unusedSimpArgs false
set_option maxRecDepth 100000
theorem infoCoC : (Tryd.prog.info? 24).map (fun i => (i.zero, i.size, i.bytes)) = some (some (.agg #[.int .i64 0, .int .i64 0, .string ⟨#[]⟩, .int .i64 0, .int .i64 0, .string ⟨#[]⟩]), 6, 64) := by kernel_rfl
set_option maxHeartbeats 1000000 in
theorem cloneCo_any (a : Option Addr) (cap : Nat) (xs : List Co) (w : World) (hr : Reads encCo 6 w a xs) (hl : xs.length ≤ 1000000) :
    Calls Tryd.prog 25 #[.slice a xs.length cap] w fun e w' => ∃ v, e = .returned v ∧ w'.ownsRow w.heap.size 24 6 v xs.length (xs.flatMap encCo) ∧ Below w.heap.size w w' := by
  cases a with
  | none =>
    have hx : xs = [] := by
      cases xs with
      | nil => rfl
      | cons x xs => obtain ⟨b, off, h, _⟩ := hr 0 (by simp); cases h
    subst hx
    have hnil := Lib.run_eql_slice_nil (P := Tryd.prog) w 22 24 none 0 cap 0 0 Tryd.underlying22
    have HP := Lib.hid (World.ownsRow_nil w w.heap.size 24 6)
    go_enter Tryd.func25, Tryd.ntmps25
    go_wp2_with fail
    go_ret
    exact ⟨_, rfl, HP.out, Below.refl _ _⟩
  | some ad =>
    obtain ⟨i0, hi, hz0, hz1, hz2⟩ := info_parts infoCoC
    have hnil := Lib.run_eql_slice_nil (P := Tryd.prog) w 22 24 (some ad) xs.length cap 0 0 Tryd.underlying22
    have HR := Lib.hid hr
    clear hr
    go_enter Tryd.func25, Tryd.ntmps25
    have hfl := HR.out.flat (by omega) encCo_len
    have HFL := Lib.hid hfl
    clear hfl
    go_wp2_with (at_builtin; refine wpList_append_own _ rfl _ _ 22 rfl w.heap.size 24 i0 (.agg #[.int .i64 0, .int .i64 0, .string ⟨#[]⟩, .int .i64 0, .int .i64 0, .string ⟨#[]⟩]) 6 64 Tryd.underlying22 hi hz0 hz1 hz2 rfl (by decide) _ _ _ rfl (World.ownsRow_made w #[] 0 (Nat.le_refl _) (by unfold maxLen; omega) rfl) ad xs.length cap (xs.flatMap encCo) rfl ?c0 ?c1 ?c2 ?c3 ?c4 ?c5 ?_)
    case c0 => rw [flat_len encCo 6 encCo_len]
    case c1 =>
      intro j u hu
      obtain ⟨h1, h2⟩ := HFL.out j u hu
      have h3 : (ad.add j).block = ad.block := by unfold Addr.add; split <;> rfl
      rw [World.cell?_alloc_lt _ _ _ (by rw [h3]; exact h1)]
      exact h2
    case c2 =>
      intro u hu
      obtain ⟨x, _, hx⟩ := List.mem_flatMap.1 hu
      simp [encCo] at hx
      rcases hx with rfl | rfl | rfl | rfl | rfl | rfl <;> rfl
    case c3 => unfold maxLen; omega
    case c4 => omega
    case c5 => simp
    intro v' w2 hown' hgrow _
    have hbel : Below w.heap.size w w2 := ((Below.refl _ _).alloc (Nat.le_refl _) _).grown hgrow (by simp) (fun k hk => by simp [Value.ownBlock] at hk; omega)
    have HO := Lib.hid hown'
    clear hown' hgrow
    go_wp2_with fail
    go_ret
    exact ⟨_, rfl, HO.out, hbel⟩
/-- as a value -/
theorem cloneCo_fn (xs : List Co) (hl : xs.length ≤ 1000000) : FnP Tryd.prog 25 [.sl (xs.map aCo)] (.sl (xs.map aCo)) :=
  FnP.of_owns encCo aCo 6 encCo_len (fun _ => rfl) (fun x u hu => by simp [encCo] at hu; rcases hu with rfl | rfl | rfl | rfl | rfl | rfl <;> rfl) xs (fun w a cap hr h1 h2 h3 => cloneCo_any a cap xs w hr hl)
/-- as a slice of the caller's own -/
theorem cloneCo_new (xs : List Co) (hl : xs.length ≤ 1000000) : FnNew Tryd.prog 25 [.sl (xs.map aCo)] 24 6 (xs.map aCo) :=
  FnNew.of_owns encCo aCo 6 encCo_len (fun _ => rfl) (fun x u hu => by simp [encCo] at hu; rcases hu with rfl | rfl | rfl | rfl | rfl | rfl <;> rfl) xs (fun w a cap hr h1 h2 h3 => cloneCo_any a cap xs w hr hl)
end Go.Proofs.YthogpkmidffdeaaDoor
