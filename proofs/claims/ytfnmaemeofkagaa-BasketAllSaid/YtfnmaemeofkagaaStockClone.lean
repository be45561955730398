/- The stock: slices.Clone at items. -/
import Derived.Test.YtfnmaemeofkagaaStockFind
namespace Go.Proofs.Ytfnmaemeofkagaa
open Go.ChangeShapes Go.WideShapes Go.ChangeAt Go.RowKit
open StockP
set_option maxRecDepth 100000
theorem flat_len {α : Type} (enc : α → List Value) (sz : Nat) (hz : ∀ x, (enc x).length = sz) (xs : List α) : (xs.flatMap enc).length = xs.length * sz := by
  induction xs with
  | nil => simp
  | cons x xs ih => rw [List.flatMap_cons, List.length_append, ih, hz, List.length_cons, Nat.add_mul]; omega
/-- what a slice that reads as a list holds, cell by cell -/
theorem Reads.flat {α : Type} {enc : α → List Value} {sz : Nat} (hsz : 0 < sz) (hz : ∀ x, (enc x).length = sz) {w : World} {ad : Addr} {xs : List α} (h : Reads enc sz w (some ad) xs) :
    ∀ j u, (xs.flatMap enc)[j]? = some u → ad.block < w.heap.size ∧ w.cell? (ad.add j) = some u := by
  intro j u hu
  have hj : j < xs.length * sz := by
    have := (List.getElem?_eq_some_iff.1 hu).1
    rwa [flat_len enc sz hz] at this
  have hi : j / sz < xs.length := (Nat.div_lt_iff_lt_mul hsz).2 hj
  obtain ⟨b, off, ha, hb, hc⟩ := h (j / sz) hi
  simp only [Option.some.injEq] at ha
  subst ha
  have hr := hc (j % sz) (Nat.mod_lt _ hsz)
  rw [← flat_get enc sz hz xs (j / sz) hi (j % sz) (Nat.mod_lt _ hsz)] at hr
  have e : j / sz * sz + j % sz = j := by rw [Nat.mul_comm]; exact Nat.div_add_mod j sz
  rw [Nat.add_assoc, e] at hr
  exact ⟨hb, by rw [addr_add]; exact hr.trans hu⟩
theorem infoT : (Try.prog.info? 42).map (fun i => (i.zero, i.size, i.bytes)) = some (some (itv 0 0 0 0), 4, 32) := by kernel_rfl
theorem encT_len (x : It) : (encT x).length = 4 := rfl
set_option maxHeartbeats 1000000 in
theorem clone_any (a : Option Addr) (cap : Nat) (xs : List It) (w : World) (hr : Reads encT 4 w a xs) (hl : xs.length ≤ 1000000) :
    Calls Try.prog 45 #[.slice a xs.length cap] w fun e w' => ∃ v, e = .returned v ∧ w'.ownsRow w.heap.size 42 4 v xs.length (xs.flatMap encT) ∧ Below w.heap.size w w' := by
  cases a with
  | none =>
    have hx : xs = [] := by
      cases xs with
      | nil => rfl
      | cons x xs => obtain ⟨b, off, h, _⟩ := hr 0 (by simp); cases h
    subst hx
    have hnil := Lib.run_eql_slice_nil (P := Try.prog) w 22 42 none 0 cap 0 0 Try.underlying22
    have HP := Lib.hid (World.ownsRow_nil w w.heap.size 42 4)
    go_enter Try.func45, Try.ntmps45
    go_wp2_with fail
    go_ret
    exact ⟨_, rfl, HP.out, Below.refl _ _⟩
  | some ad =>
    obtain ⟨i0, hi, hz0, hz1, hz2⟩ := info_parts infoT
    have hnil := Lib.run_eql_slice_nil (P := Try.prog) w 22 42 (some ad) xs.length cap 0 0 Try.underlying22
    have HR := Lib.hid hr
    clear hr
    go_enter Try.func45, Try.ntmps45
    have hfl := HR.out.flat (by omega) encT_len
    have HFL := Lib.hid hfl
    clear hfl
    go_wp2_with (at_builtin; refine wpList_append_own _ rfl _ _ 22 rfl w.heap.size 42 i0 (itv 0 0 0 0) 4 32 Try.underlying22 hi hz0 hz1 hz2 rfl (by decide) _ _ _ rfl (World.ownsRow_made w #[] 0 (Nat.le_refl _) (by unfold maxLen; omega) rfl) ad xs.length cap (xs.flatMap encT) rfl ?c0 ?c1 ?c2 ?c3 ?c4 ?c5 ?_)
    case c0 => rw [flat_len encT 4 encT_len]
    case c1 =>
      intro j u hu
      obtain ⟨h1, h2⟩ := HFL.out j u hu
      have h3 : (ad.add j).block = ad.block := by unfold Addr.add; split <;> rfl
      rw [World.cell?_alloc_lt _ _ _ (by rw [h3]; exact h1)]
      exact h2
    case c2 =>
      intro u hu
      obtain ⟨x, _, hx⟩ := List.mem_flatMap.1 hu
      simp [encT] at hx
      rcases hx with rfl | rfl | rfl | rfl <;> rfl
    case c3 => unfold maxLen; omega
    case c4 => omega
    case c5 => simp
    intro v' w2 hown' hgrow _
    have hbel : Below w.heap.size w w2 := ((Below.refl _ _).alloc (Nat.le_refl _) _).grown hgrow (by simp) (fun k hk => by simp [Value.ownBlock] at hk; omega)
    have HO := Lib.hid hown'
    clear hown' hgrow
    go_wp2_with fail
    go_ret
    exact ⟨_, rfl, HO.out, hbel⟩
end Go.Proofs.Ytfnmaemeofkagaa
