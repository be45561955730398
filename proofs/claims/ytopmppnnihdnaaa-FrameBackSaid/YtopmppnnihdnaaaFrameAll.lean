/- frame.All: a range over a function (frame.frames), by the laws for such loops. -/
import Derived.Test.YtopmppnnihdnaaaAmFrA
import Derived.Test.YtopmppnnihdnaaaAmLaw
import Derived.RangeFuncNested
import Derived.RangeFuncBound
import Derived.RangeFuncCalls
import Derived.RangeFuncLeaves
import Derived.Shelf.Abstract
import Derived.Shelf.RegionOpen
import Derived.WalkKit
import Derived.OwnWalkIn
import Derived.TacticsInMore
import Derived.LoopNIn
import Derived.LoopIn
import Derived.Maps.AppendAt
namespace Go.Proofs.Ytopmppnnihdnaaa
set_option linter.unusedVariables false
set_option linter.unusedSimpArgs false
open Go.RowKit Go.Shelf
set_option linter.unusedVariables false
set_option linter.unusedSimpArgs false
set_option maxRecDepth 100000
attribute [local go_sem] Oper.semAt_some
theorem get_c {s : ByteArray} {p : Int} {b : ByteArray} {t er : Int} (hs : s.size ≤ 1000000) (h : getF s p = (b, t, er)) (w : World) : Calls Try.prog 13 #[.string s, .int .i64 p] w fun e w' => e = .returned (.tuple #[.string b, .int .i64 t, .int .i64 er]) ∧ Below w.heap.size w w' := by
  refine (pure_call (getF_fn s p hs) (HRel.nil w (fun p hp => by cases hp)) (AllRep.cons (.str s) (AllRep.cons (.int .i64 p) .nil)).reps).mono ?_
  rintro e w' ⟨v, rfl, hb, hr⟩
  rw [h] at hr
  refine ⟨?_, hb⟩
  cases hr with
  | tup vs cs hl h =>
    obtain ⟨l⟩ := vs
    match l, hl with
    | [x, y, z], _ =>
      have h0 := h 0 x _ rfl rfl
      have h1 := h 1 y _ rfl rfl
      have h2 := h 2 z _ rfl rfl
      cases h0; cases h1; cases h2; rfl
theorem frames_c (s : ByteArray) (w : World) : Calls Try.prog 29 #[.string s] w fun e w' => e = .returned (.func (.func 37) #[] #[.pointer (some ⟨w.heap.size, 0, none⟩)]) ∧ w' = w.alloc (.cells #[.string s] 9) := by
  refine (callsIn_wide (n := 6)).1 ?_
  refine callsIn_of_wp Try.func29 rfl trivial ?_ rfl
  simp only [Try.ntmps29, List.size_toArray, List.length_cons, List.length_nil, Nat.reduceAdd, Nat.reduceSub, Array.replicate_succ, Array.replicate_zero, List.push_toArray, List.append_toArray, List.nil_append, List.cons_append]
  gi_wp2
  go_ret
  exact ⟨rfl, rfl⟩
abbrev encF (x : Int × ByteArray) : Array Value := #[.int .i64 x.1, .string x.2]
/-- what a round keeps: block B -/
def KpB (B : Nat) (W W' : World) : Prop := W.heap.size ≤ W'.heap.size ∧ (B < W.heap.size → W'.heap[B]? = W.heap[B]?)
theorem KpB_t {B : Nat} {X Y Z : World} (h : KpB B X Y) (k : KpB B Y Z) : KpB B X Z := ⟨Nat.le_trans h.1 k.1, fun hb => (k.2 (Nat.lt_of_lt_of_le hb h.1)).trans (h.2 hb)⟩
theorem KpB_b {B n : Nat} (hB : B < n) (W : World) (l : Nat) (o o' : Obj) (hl : n ≤ l) (_ : W.heap[l]? = some o) (_ : o.isCells = false) (_ : o.isWalk = false) : KpB B W (W.putObj l o') :=
  ⟨by simp, fun _ => World.putObj_heap_other (by omega)⟩
theorem grown_below {W W' : World} (h : Below W.heap.size W W') : W.grownBy W' none := ⟨h.os, h.tape, h.output, h.size, fun k hk _ => h.block k hk⟩
set_option maxHeartbeats 4000000 in
theorem frames1_in (n : Nat) (hn : 2 ≤ n) (l B : Nat) (s : ByteArray) (hs : s.size ≤ 1000000) (J Jx : List (Int × ByteArray) → World → Prop) (W : World) (hJ : AbidesFrom W.heap.size J)
    (hY : ∀ pre x W1, J pre W1 → pre.length < s.size + 1 → YieldAt Fence.wide (n - 1) Try.prog l (encF x) W1 fun e W' => (e = .returned (.bool true) ∧ J (pre ++ [x]) W' ∧ KpB B W1 W') ∨ (e = .returned (.bool false) ∧ Jx (pre ++ [x]) W'))
    (hB : W.heap[B]? = some (.cells #[.string s] 9 (0, 0))) (h0 : J [] W) :
    CallsIn Fence.wide n Try.prog 37 #[.func (.yield l) #[] #[], .pointer (some ⟨B, 0, none⟩)] W fun e W' => (∃ v, e = .returned v) ∧ ((∃ ys, ys = allX s ∧ J ys W') ∨ (∃ pre, pre <+: allX s ∧ Jx pre W')) := by
  refine callsIn_of_wp Try.func37 rfl trivial ?_ rfl
  simp only [Try.ntmps37, List.size_toArray, List.length_cons, List.length_nil, Nat.reduceAdd, Nat.reduceSub, Array.replicate_succ, Array.replicate_zero, List.push_toArray, List.append_toArray, List.nil_append, List.cons_append]
  gi_wp2
  have hF : Fence.wide.fn 13 := trivial
  have h1n : 1 ≤ n := by omega
  gi_loopw [3] (fun p wr => ∃ (pre : List (Int × ByteArray)) (q : Int), p = .int .i64 q ∧ At s pre q ∧ J pre wr ∧ wr.heap[B]? = some (.cells #[.string s] 9 (0, 0))) (fun p wr => s.size + 1 - (intOf p).toNat)
  case atStart => exact ⟨[], 0, rfl, at_start s, h0, hB⟩
  case round =>
    obtain ⟨pre, q, rfl, hat, hJs, hb⟩ := hrel
    have hc : wr.cell? ⟨B, 0, none⟩ = some (.string s) := by simp [World.cell?, hb]
    obtain ⟨b, t, er, hg⟩ : ∃ b t er, getF s q = (b, t, er) := ⟨_, _, _, rfl⟩
    by_cases e : er = 0
    · subst e
      have e0 : (getF s q).2.2 = 0 := by rw [hg]
      have hpl := at_len hat
      have hlt := getF_lt e0
      have hgo := at_go hat e0
      rw [hg] at hgo hlt
      gi_wp2_with (gi_at_call 13; refine (callsIn_wide.2 (get_c hs hg _)).mono ?_; rintro e w1 ⟨rfl, hb1⟩; have hJ1 := hJ _ _ _ none hJs (grown_below hb1) (fun r e => by cases e); obtain ⟨fn, tmps, assign, body, hy, hR⟩ := hY pre (t, b) w1 hJ1 (by omega); dsimp only [encF] at hy)
      refine hR.mono ?_
      rintro e W3 (⟨rfl, hJ3, hk3⟩ | ⟨rfl, hJx3⟩)
      · have hb3 : W3.heap[B]? = some (.cells #[.string s] 9 (0, 0)) := (hk3.2 (Nat.lt_of_lt_of_le (Array.getElem?_eq_some_iff.1 hb).1 hb1.size)).trans ((hb1.block B (Array.getElem?_eq_some_iff.1 hb).1).trans hb)
        gi_wp2
        go_roundw
        case rel => exact ⟨pre ++ [(t, b)], t, rfl, hgo, hJ3, hb3⟩
        case measure => simp [intOf]; omega
      · gi_wp2
        refine bodyPost_ret (results_none rfl _ _ _) rfl ?_
        exact ⟨⟨_, rfl⟩, .inr ⟨pre ++ [(t, b)], ⟨_, hgo.2.2.2⟩, hJx3⟩⟩
    · have e0 : (getF s q).2.2 ≠ 0 := by rw [hg]; exact e
      have e1 : (er == (0 : Int)) = false := by simpa using e
      have e2 : decide (er = 0) = false := decide_eq_false e
      gi_wp2_with (gi_at_call 13; refine (callsIn_wide.2 (get_c hs hg _)).mono ?_; rintro e w1 ⟨rfl, hb1⟩; have hJ1 := hJ _ _ _ none hJs (grown_below hb1) (fun r e => by cases e))
      refine ⟨fun _ h => (by cases h), ?_⟩
      gi_wp2
      refine bodyPost_ret (results_none rfl _ _ _) rfl ?_
      exact ⟨⟨_, rfl⟩, .inl ⟨pre, (at_stop hat e0).1, hJ1⟩⟩
end Go.Proofs.Ytopmppnnihdnaaa
