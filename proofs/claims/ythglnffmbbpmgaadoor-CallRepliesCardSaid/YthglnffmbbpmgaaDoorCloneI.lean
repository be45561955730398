/- slices.Clone[[]int,int]. -/
import Derived.Test.YthglnffmbbpmgaaDoorCloneLib
import Derived.Lib.Hide
namespace Go.Proofs.YthglnffmbbpmgaaDoor
set_option linter.unusedVariables false
set_option linter.unusedSimpArgs false
open Go.ChangeShapes Go.WideShapes Go.ChangeAt Go.RowKit
set_option linter.unusedVariables false
set_option linter.unusedSimpArgs false
set_option maxRecDepth 100000
theorem infoIC : (Tryd.prog.info? 3).map (fun i => (i.zero, i.size, i.bytes)) = some (some (.int .i64 0), 1, 8) := by kernel_rfl
set_option maxHeartbeats 1000000 in
theorem cloneI_any (a : Option Addr) (cap : Nat) (xs : List Int) (w : World) (hr : Reads encI 1 w a xs) (hl : xs.length ≤ 1000000) :
    Calls Tryd.prog 34 #[.slice a xs.length cap] w fun e w' => ∃ v, e = .returned v ∧ w'.ownsRow w.heap.size 3 1 v xs.length (xs.flatMap encI) ∧ Below w.heap.size w w' := by
  cases a with
  | none =>
    have hx : xs = [] := by
      cases xs with
      | nil => rfl
      | cons x xs => obtain ⟨b, off, h, _⟩ := hr 0 (by simp); cases h
    subst hx
    have hnil := Lib.run_eql_slice_nil (P := Tryd.prog) w 23 3 none 0 cap 0 0 Tryd.underlying23
    have HP := Lib.hid (World.ownsRow_nil w w.heap.size 3 1)
    go_enter Tryd.func34, Tryd.ntmps34
    go_wp2_with fail
    go_ret
    exact ⟨_, rfl, HP.out, Below.refl _ _⟩
  | some ad =>
    obtain ⟨i0, hi, hz0, hz1, hz2⟩ := info_parts infoIC
    have hnil := Lib.run_eql_slice_nil (P := Tryd.prog) w 23 3 (some ad) xs.length cap 0 0 Tryd.underlying23
    have HR := Lib.hid hr
    clear hr
    go_enter Tryd.func34, Tryd.ntmps34
    have hfl := HR.out.flat (by omega) encI_len
    have HFL := Lib.hid hfl
    clear hfl
    go_wp2_with (at_builtin; refine wpList_append_own _ rfl _ _ 23 rfl w.heap.size 3 i0 (.int .i64 0) 1 8 Tryd.underlying23 hi hz0 hz1 hz2 rfl (by decide) _ _ _ rfl (World.ownsRow_made w #[] 0 (Nat.le_refl _) (by unfold maxLen; omega) rfl) ad xs.length cap (xs.flatMap encI) rfl ?c0 ?c1 ?c2 ?c3 ?c4 ?c5 ?_)
    case c0 => rw [flat_len encI 1 encI_len]
    case c1 =>
      intro j u hu
      obtain ⟨h1, h2⟩ := HFL.out j u hu
      have h3 : (ad.add j).block = ad.block := by unfold Addr.add; split <;> rfl
      rw [World.cell?_alloc_lt _ _ _ (by rw [h3]; exact h1)]
      exact h2
    case c2 =>
      intro u hu
      obtain ⟨x, _, hx⟩ := List.mem_flatMap.1 hu
      simp [encI] at hx
      subst hx; rfl
    case c3 => unfold maxLen; omega
    case c4 => omega
    case c5 => simp
    intro v' w2 hown' hgrow _
    have hbel : Below w.heap.size w w2 := ((Below.refl _ _).alloc (Nat.le_refl _) _).grown hgrow (by simp) (fun k hk => by simp [Value.ownBlock] at hk; omega)
    have HO := Lib.hid hown'
    clear hown' hgrow
    go_wp2_with fail
    go_ret
    exact ⟨_, rfl, HO.out, hbel⟩
/-- as a value -/
theorem cloneI_fn (xs : List Int) (hl : xs.length ≤ 1000000) : FnP Tryd.prog 34 [.sl (xs.map (AV.int .i64))] (.sl (xs.map (AV.int .i64))) :=
  FnP.of_owns encI (AV.int .i64) 1 encI_len (fun _ => rfl) (fun x u hu => by simp [encI] at hu; subst hu; rfl) xs (fun w a cap hr h1 h2 h3 => cloneI_any a cap xs w hr hl)
/-- as a slice of the caller's own -/
theorem cloneI_new (xs : List Int) (hl : xs.length ≤ 1000000) : FnNew Tryd.prog 34 [.sl (xs.map (AV.int .i64))] 3 1 (xs.map (AV.int .i64)) :=
  FnNew.of_owns encI (AV.int .i64) 1 encI_len (fun _ => rfl) (fun x u hu => by simp [encI] at hu; subst hu; rfl) xs (fun w a cap hr h1 h2 h3 => cloneI_any a cap xs w hr hl)
end Go.Proofs.YthglnffmbbpmgaaDoor
