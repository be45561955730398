/- The laws of frames begin. -/
import Derived.Test.YtopmppnnihdnaaaFrameAll2
import Derived.Test.YtopmppnnihdnaaaFrameLaw
namespace Go.Proofs.Ytopmppnnihdnaaa
set_option linter.unusedVariables false
set_option linter.unusedSimpArgs false
open Go.RowKit
open NumP
set_option maxRecDepth 100000
theorem bs_inj' {a b : ByteArray} (h : a = b) : a = b := h
abbrev sA : ByteArray := (joinP [⟨#[]⟩, ⟨#[104, 105]⟩]).1
theorem sA_size : sA.size = 12 := by decide +kernel
theorem sA_x : (sA ++ (⟨#[120]⟩ : ByteArray)).size = 13 := by rw [ByteArray.size_append, sA_size]; rfl
theorem size_put (b : ByteArray) : sizeF b = ((putF b).1.size : Int) := by unfold sizeF putF; split <;> rfl
theorem all_len (s : ByteArray) : 5 * (allP s).1.length ≤ s.size := by have := allX_len s; unfold allP; rw [List.length_map]; exact this
theorem jn_bd {l : List ByteArray} (hl : l.length ≤ 50) {k : Nat} (hk : k ≤ l.length) (h : ∀ j, j < k → (putF (l.getD j default)).2 = 0) : (jn l k).length ≤ 20013 * k := by
  induction k with
  | zero => simp [jn]
  | succ k ih =>
    have := ih (by omega) fun j hj => h j (by omega)
    have h2 := (putF_zero (h k (by omega))).1
    have h3 := frm_le (bl (l.getD k default))
    rw [bl_len] at h3
    rw [jn_succ l k (by omega), List.length_append]; omega
theorem same_cut (K L : List ByteArray) (a b : Nat) (hl : K.length ≤ 1000000) : FnP Try.prog 17 [.sl (((K.map AV.str).take b).drop a), .sl (L.map AV.str)] (.bool (decide ((K.take b).drop a = L))) := by
  have := same_fn ((K.take b).drop a) L (by rw [List.length_drop, List.length_take]; omega)
  rw [List.map_drop, List.map_take] at this; exact this
set_option maxHeartbeats 1000000 in
theorem awake_fn  : FnP Try.prog 7 [] (.bool true) := by
  have h12 := sA_size
  have h12b : (joinP [⟨#[]⟩, ⟨#[104, 105]⟩]).1.size = 12 := sA_size
  have h13 := sA_x
  have hal := all_len (sA ++ (⟨#[120]⟩ : ByteArray))
  refine FnP.of Try.func7 rfl rfl (by simp) (by simp [AV.cells]) (fun G hG => ?_)
  have hN : NoH G.length (.bool true) := (by simp [AV.cells])
  refine AWP.seq ?_
  refine AWP.region (fun _ => ?_)
  refine ARun.move (.inr rfl) rfl rfl rfl (Ev.plain rfl) optN ?_
  refine ⟨_, _, rfl, hG, ?_⟩
  refine thenA_n ?_
  refine AWP.seq ?_
  refine AWP.region (fun _ => ?_)
  refine ARun.buildSl rfl rfl rfl rfl Try.underlying22 sz9 zv9 rfl (by decide) (.cons (Ev.plain rfl) (.cons (Ev.plain rfl) .nil)) rfl rfl rfl rfl (by decide) rfl rfl optN ?_
  refine ARun.call rfl rfl rfl rfl cf10 (Ev.plain rfl) (.cons (Ev.plain rfl) .nil) rfl (fun hg => join_fn [⟨#[]⟩, ⟨#[104, 105]⟩] (by decide) (by simp [maxLen]; decide) (by decide +kernel)) optN ?_
  refine ARun.move (.inl rfl) rfl rfl rfl (Ev.plain rfl) optN ?_
  refine ARun.extract rfl rfl rfl rfl (Ev.plain rfl) rfl optN ?_
  refine ARun.extract rfl rfl rfl rfl (Ev.plain rfl) rfl optN ?_
  refine ARun.move (.inr rfl) rfl rfl rfl (Ev.plain rfl) optN ?_
  refine ARun.move (.inr rfl) rfl rfl rfl (Ev.plain rfl) optN ?_
  refine ⟨_, _, rfl, hG, ?_⟩
  refine thenA_n ?_
  refine AWP.seq ?_
  refine AWP.region (fun _ => ?_)
  refine ARun.move (.inl rfl) rfl rfl rfl (Ev.plain rfl) optN ?_
  refine ARun.call rfl rfl rfl rfl cf13 (Ev.plain rfl) (.cons (Ev.plain rfl) (.cons (Ev.plain rfl) .nil)) rfl (fun hg => getF_fn sA 5 (by omega)) optN ?_
  refine ARun.move (.inl rfl) rfl rfl rfl (Ev.plain rfl) optN ?_
  refine ARun.extract rfl rfl rfl rfl (Ev.plain rfl) rfl optN ?_
  refine ARun.extract rfl rfl rfl rfl (Ev.plain rfl) rfl optN ?_
  refine ARun.extract rfl rfl rfl rfl (Ev.plain rfl) rfl optN ?_
  refine ARun.move (.inr rfl) rfl rfl rfl (Ev.plain rfl) optN ?_
  refine ARun.move (.inr rfl) rfl rfl rfl (Ev.plain rfl) optN ?_
  refine ARun.move (.inr rfl) rfl rfl rfl (Ev.plain rfl) optN ?_
  refine ⟨_, _, rfl, hG, ?_⟩
  refine thenA_n ?_
  refine AWP.seq ?_
  refine AWP.region (fun _ => ?_)
  refine ARun.move (.inl rfl) rfl rfl rfl (Ev.plain rfl) optN ?_
  refine ARun.cat rfl rfl rfl rfl (Ev.plain rfl) (Ev.plain rfl) (fun hg => (by rw [show (joinP [⟨#[]⟩, ⟨#[104, 105]⟩]).1.size = 12 from sA_size]; decide)) optN ?_
  refine ARun.call rfl rfl rfl rfl cf15 (Ev.plain rfl) (.cons (Ev.plain rfl) .nil) rfl (fun hg => all_fn (sA ++ (⟨#[120]⟩ : ByteArray)) (by omega)) optN ?_
  refine ARun.move (.inl rfl) rfl rfl rfl (Ev.plain rfl) optN ?_
  refine ARun.extract rfl rfl rfl rfl (Ev.plain rfl) rfl optN ?_
  refine ARun.extract rfl rfl rfl rfl (Ev.plain rfl) rfl optN ?_
  refine ARun.move (.inr rfl) rfl rfl rfl (Ev.plain rfl) optN ?_
  refine ARun.move (.inr rfl) rfl rfl rfl (Ev.plain rfl) optN ?_
  refine ⟨_, _, rfl, hG, ?_⟩
  refine thenA_n ?_
  refine AWP.seq ?_
  refine AWP.region (fun _ => ?_)
  refine ARun.call rfl rfl rfl rfl cf8 (Ev.plain rfl) (.cons (Ev.plain rfl) .nil) rfl (fun hg => putF_fn ⟨#[104, 105]⟩ (by decide +kernel)) optN ?_
  refine ARun.move (.inl rfl) rfl rfl rfl (Ev.plain rfl) optN ?_
  refine ARun.extract rfl rfl rfl rfl (Ev.plain rfl) rfl optN ?_
  refine ARun.extract rfl rfl rfl rfl (Ev.plain rfl) rfl optN ?_
  refine ARun.move (.inr rfl) rfl rfl rfl (Ev.plain rfl) optN ?_
  refine ARun.move (.inr rfl) rfl rfl rfl (Ev.plain rfl) optN ?_
  refine ⟨_, _, rfl, hG, ?_⟩
  refine thenA_n ?_
  refine AWP.seq ?_
  refine AWP.region (fun _ => ?_)
  refine ARun.move (.inl rfl) rfl rfl rfl (Ev.plain rfl) optN ?_
  refine ARun.move (.inl rfl) rfl rfl rfl (Ev.plain rfl) optN ?_
  refine ARun.lenStr rfl rfl rfl rfl Try.underlying9 (Ev.plain rfl) optN ?_
  refine ARun.call rfl rfl rfl rfl cf13 (Ev.plain rfl) (.cons (Ev.plain rfl) (.cons (Ev.plain rfl) .nil)) rfl (fun hg => getF_fn sA sA.size (by omega)) optN ?_
  refine ARun.move (.inl rfl) rfl rfl rfl (Ev.plain rfl) optN ?_
  refine ARun.extract rfl rfl rfl rfl (Ev.plain rfl) rfl optN ?_
  refine ARun.extract rfl rfl rfl rfl (Ev.plain rfl) rfl optN ?_
  refine ARun.extract rfl rfl rfl rfl (Ev.plain rfl) rfl optN ?_
  refine ARun.move (.inr rfl) rfl rfl rfl (Ev.plain rfl) optN ?_
  refine ARun.move (.inr rfl) rfl rfl rfl (Ev.plain rfl) optN ?_
  refine ARun.move (.inr rfl) rfl rfl rfl (Ev.plain rfl) optN ?_
  refine ⟨_, _, rfl, hG, ?_⟩
  refine thenA_n ?_
  refine AWP.seq ?_
  refine AWP.region (fun _ => ?_)
  refine ARun.move (.inl rfl) rfl rfl rfl (Ev.plain rfl) optN ?_
  refine ARun.lenStr rfl rfl rfl rfl Try.underlying9 (Ev.plain rfl) optN ?_
  refine ARun.cmp rfl rfl rfl rfl (Ev.plain rfl) (Ev.plain rfl) rfl optN ?_
  refine ARun.move (.inl rfl) rfl rfl rfl (Ev.plain rfl) optN ?_
  refine ARun.move (.inl rfl) rfl rfl rfl (Ev.plain rfl) optS ?_
  refine ARun.cmp rfl rfl rfl rfl (Ev.opt rfl (fun h => h)) (Ev.plain rfl) rfl optS ?_
  refine ARun.pick rfl rfl rfl rfl (Ev.plain rfl) (Ev.opt rfl (by first | exact pkT | exact pkT2 | simp +contextual)) (Ev.plain rfl) (andB _ _) optN ?_
  refine ARun.move (.inl rfl) rfl rfl rfl (Ev.plain rfl) optN ?_
  refine ARun.move (.inl rfl) rfl rfl rfl (Ev.plain rfl) optS ?_
  refine ARun.cmpS rfl rfl rfl rfl (Ev.opt rfl (fun h => h)) (Ev.plain rfl) rfl optS ?_
  refine ARun.pick rfl rfl rfl rfl (Ev.plain rfl) (Ev.opt rfl (by first | exact pkT | exact pkT2 | simp +contextual)) (Ev.plain rfl) (andB _ _) optN ?_
  refine ARun.move (.inl rfl) rfl rfl rfl (Ev.plain rfl) optN ?_
  refine ARun.move (.inl rfl) rfl rfl rfl (Ev.plain rfl) optS ?_
  refine ARun.cmp rfl rfl rfl rfl (Ev.opt rfl (fun h => h)) (Ev.plain rfl) rfl optS ?_
  refine ARun.pick rfl rfl rfl rfl (Ev.plain rfl) (Ev.opt rfl (by first | exact pkT | exact pkT2 | simp +contextual)) (Ev.plain rfl) (andB _ _) optN ?_
  refine ARun.move (.inl rfl) rfl rfl rfl (Ev.plain rfl) optN ?_
  refine ARun.move (.inl rfl) rfl rfl rfl (Ev.plain rfl) optS ?_
  refine ARun.cmp rfl rfl rfl rfl (Ev.opt rfl (fun h => h)) (Ev.plain rfl) rfl optS ?_
  refine ARun.pick rfl rfl rfl rfl (Ev.plain rfl) (Ev.opt rfl (by first | exact pkT | exact pkT2 | simp +contextual)) (Ev.plain rfl) (andB _ _) optN ?_
  refine ARun.move (.inl rfl) rfl rfl rfl (Ev.plain rfl) optN ?_
  refine ARun.move (.inl rfl) rfl rfl rfl (Ev.plain rfl) optS ?_
  refine ARun.buildSl rfl rfl rfl rfl Try.underlying22 sz9 zv9 rfl (by decide) (.cons (Ev.plain rfl) (.cons (Ev.plain rfl) .nil)) rfl rfl rfl rfl (by decide) rfl rfl optS ?_
  refine ARun.call rfl rfl rfl rfl cf17 (Ev.plain rfl) (.cons (Ev.opt rfl (fun h => h)) (.cons (Ev.opt rfl (fun h => h)) .nil)) rfl (fun hg => same_fn (allP (sA ++ (⟨#[120]⟩ : ByteArray))).1 [⟨#[]⟩, ⟨#[104, 105]⟩] (by omega)) optS ?_
  refine ARun.pick rfl rfl rfl rfl (Ev.plain rfl) (Ev.opt rfl (by first | exact pkT | exact pkT2 | simp +contextual)) (Ev.plain rfl) (andB _ _) optN ?_
  refine ARun.move (.inl rfl) rfl rfl rfl (Ev.plain rfl) optN ?_
  refine ARun.move (.inl rfl) rfl rfl rfl (Ev.plain rfl) optS ?_
  refine ARun.cmp rfl rfl rfl rfl (Ev.opt rfl (fun h => h)) (Ev.plain rfl) rfl optS ?_
  refine ARun.pick rfl rfl rfl rfl (Ev.plain rfl) (Ev.opt rfl (by first | exact pkT | exact pkT2 | simp +contextual)) (Ev.plain rfl) (andB _ _) optN ?_
  refine ARun.move (.inl rfl) rfl rfl rfl (Ev.plain rfl) optN ?_
  refine ARun.move (.inl rfl) rfl rfl rfl (Ev.plain rfl) optS ?_
  refine ARun.cutStr (a := 5) (b := sA.size) rfl rfl rfl rfl Try.underlying9 (Ev.opt rfl (fun h => h)) ⟨_, _, (Ev.plain rfl), fun hg => rfl⟩ (fun _ => rfl) (fun hg => (by omega)) rfl optS ?_
  refine ARun.move (.inl rfl) rfl rfl rfl (Ev.plain rfl) optS ?_
  refine ARun.cmpS rfl rfl rfl rfl (Ev.opt rfl (fun h => h)) (Ev.opt rfl (fun h => h)) rfl optS ?_
  refine ARun.pick rfl rfl rfl rfl (Ev.plain rfl) (Ev.opt rfl (by first | exact pkT | exact pkT2 | simp +contextual)) (Ev.plain rfl) (andB _ _) optN ?_
  refine ARun.move (.inl rfl) rfl rfl rfl (Ev.plain rfl) optN ?_
  refine ARun.move (.inl rfl) rfl rfl rfl (Ev.plain rfl) optS ?_
  refine ARun.cmp rfl rfl rfl rfl (Ev.opt rfl (fun h => h)) (Ev.plain rfl) rfl optS ?_
  refine ARun.pick rfl rfl rfl rfl (Ev.plain rfl) (Ev.opt rfl (by first | exact pkT | exact pkT2 | simp +contextual)) (Ev.plain rfl) (andB _ _) optN ?_
  refine ARun.move (.inl rfl) rfl rfl rfl (Ev.plain rfl) optN ?_
  refine ARun.move (.inl rfl) rfl rfl rfl (Ev.plain rfl) optS ?_
  refine ARun.cmp rfl rfl rfl rfl (Ev.opt rfl (fun h => h)) (Ev.plain rfl) rfl optS ?_
  refine ARun.pick rfl rfl rfl rfl (Ev.plain rfl) (Ev.opt rfl (by first | exact pkT | exact pkT2 | simp +contextual)) (Ev.plain rfl) (andB _ _) optN ?_
  refine ARun.move (.inl rfl) rfl rfl rfl (Ev.plain rfl) optN ?_
  refine ARun.call rfl rfl rfl rfl cf12 (Ev.plain rfl) (.cons (Ev.plain rfl) .nil) rfl (fun hg => sizeF_fn ⟨#[104, 105]⟩ (by decide +kernel)) optS ?_
  refine ARun.cmp rfl rfl rfl rfl (Ev.opt rfl (fun h => h)) (Ev.plain rfl) rfl optS ?_
  refine ARun.pick rfl rfl rfl rfl (Ev.plain rfl) (Ev.opt rfl (by first | exact pkT | exact pkT2 | simp +contextual)) (Ev.plain rfl) (andB _ _) optN ?_
  refine ARun.move (.inl rfl) rfl rfl rfl (Ev.plain rfl) optN ?_
  refine ARun.call rfl rfl rfl rfl cf12 (Ev.plain rfl) (.cons (Ev.plain rfl) .nil) rfl (fun hg => sizeF_fn ⟨#[]⟩ (by decide +kernel)) optS ?_
  refine ARun.cmp rfl rfl rfl rfl (Ev.opt rfl (fun h => h)) (Ev.plain rfl) rfl optS ?_
  refine ARun.pick rfl rfl rfl rfl (Ev.plain rfl) (Ev.opt rfl (by first | exact pkT | exact pkT2 | simp +contextual)) (Ev.plain rfl) (andB _ _) optN ?_
  refine ARun.move (.inr rfl) rfl rfl rfl (Ev.plain rfl) optN ?_
  refine ⟨_, _, rfl, hG, ?_⟩
  refine thenA_n ?_
  refine AWP.ret ?_
  refine endF.one (.inr rfl) rfl (.tmp rfl) ?_ hN
  refine congrArg AV.bool ?_
  decide +kernel
end Go.Proofs.Ytopmppnnihdnaaa
