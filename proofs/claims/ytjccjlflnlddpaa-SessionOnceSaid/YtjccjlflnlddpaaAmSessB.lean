/- Note. -/
import Derived.Test.YtjccjlflnlddpaaAmSessA
import Derived.Test.YtjccjlflnlddpaaCloneSe
import Derived.Test.YtjccjlflnlddpaaInsertSe
namespace Go.Proofs.Ytjccjlflnlddpaa
set_option linter.unusedVariables false
set_option linter.unusedSimpArgs false
open Go.RowKit
open SessP
set_option maxRecDepth 100000
/-- a client's session is put where it belongs -/
def putP (l : List Se) (s : Se) : List Se :=
  if 0 ≤ idxOf (fun x => decide (x.client = s.client)) l then l.set (idxOf (fun x => decide (x.client = s.client)) l).toNat s
  else if idxOf (fun x => decide (s.client < x.client)) l < 0 then l.take l.length ++ [s] ++ l.drop l.length
  else l.take (idxOf (fun x => decide (s.client < x.client)) l).toNat ++ [s] ++ l.drop (idxOf (fun x => decide (s.client < x.client)) l).toNat
/-- what Note tells -/
def noteP (l : List Se) (s : Se) : List Se × Int :=
  if (askP l s.client s.seq).2.2 = 0 then if may s = true then if (askP l s.client s.seq).2.1 = true then ([], 41) else (putP l s, 0) else ([], 2)
  else ([], (askP l s.client s.seq).2.2)
theorem ins_map (l : List Se) (s : Se) (k : Nat) : (l.take k ++ [s] ++ l.drop k).map aSe = (l.map aSe).take k ++ [aSe s] ++ (l.map aSe).drop k := by
  rw [List.map_append, List.map_append, List.map_take, List.map_drop]; rfl
theorem set_cells {z : Nat} {xs : List AV} {k : Nat} {X : AV} (h : ∀ x, x ∈ xs → x.cells.length = z) (hX : X.cells.length = z) : ∀ x, x ∈ xs.set k X → x.cells.length = z := by
  intro x hx
  rcases List.mem_or_eq_of_mem_set hx with hx | rfl
  · exact h x hx
  · exact hX
theorem clone_new (l : List Se) (hl : l.length ≤ 1000000) : FnNew Try.prog 20 [.sl (l.map aSe)] 24 3 (l.map aSe) :=
  FnNew.of_owns encSe aSe 3 encSe_len (fun x => rfl) (fun x u hu => by simp [encSe] at hu; rcases hu with rfl | rfl | rfl <;> rfl) l (fun w a cap hr _ _ _ => cloneSe_any a cap l w hr hl)
set_option maxHeartbeats 1000000 in
theorem noteF_fn (x s : Se) : FnP Try.prog 23 [aSe x, .pe (aSe s).cells] (.bool (decide (s.client < x.client))) := by
  refine FnP.of Try.func23 rfl rfl (by simp) (by simp [AV.cells, aSe]) (fun G hG => ?_)
  have hN : NoH G.length (.bool (decide (s.client < x.client))) := (by simp [AV.cells, aSe])
  refine AWP.seq ?_
  refine AWP.region (fun _ => ?_)
  refine ARun.box (j := 0) hG rfl rfl rfl rfl rfl (Ev.plain rfl) rfl rfl optN ?_
  refine ARun.move (.inr rfl) rfl rfl rfl (Ev.plain rfl) optN ?_
  refine ⟨_, _, rfl, hG, ?_⟩
  refine thenA_n ?_
  refine AWP.seq ?_
  refine AWP.region (fun _ => ?_)
  refine ARun.fieldBox rfl rfl rfl rfl Try.underlying24 rfl rfl sz3 (by decide) (Ev.plain rfl) ((hG.at _ _).trans rfl) optN ?_
  refine ARun.loadBox rfl rfl rfl rfl Try.underlying3 rfl (Ev.plain rfl) ((hG.at _ _).trans rfl) rfl optN ?_
  first | refine ARun.fieldPe rfl rfl rfl rfl Try.underlying24 rfl rfl sz3 (by decide) (Ev.plain rfl) rfl optN ?_ | refine ARun.fieldBox rfl rfl rfl rfl Try.underlying24 rfl rfl sz3 (by decide) (Ev.plain rfl) ((hG.at _ _).trans rfl) optN ?_
  first | refine ARun.loadPe rfl rfl rfl rfl Try.underlying3 rfl (Ev.plain rfl) rfl optN ?_ | refine ARun.loadBox rfl rfl rfl rfl Try.underlying3 rfl (Ev.plain rfl) ((hG.at _ _).trans rfl) rfl optN ?_
  refine ARun.cmp rfl rfl rfl rfl (Ev.plain rfl) (Ev.plain rfl) rfl optN ?_
  refine ARun.move (.inr rfl) rfl rfl rfl (Ev.plain rfl) optN ?_
  refine ⟨_, _, rfl, hG, ?_⟩
  refine thenA_n ?_
  refine AWP.ret ?_
  refine endF.one (.inr rfl) rfl (.tmp rfl) ?_ hN
  rfl
set_option maxHeartbeats 1000000 in
theorem note_fn (l : List Se) (s : Se) (hl : l.length ≤ 1000) (hs : s.reply.size ≤ 9223372036854775807) : FnP Try.prog 10 [.sl (l.map aSe), aSe s] (.tup [.sl ((noteP l s).1.map aSe), .int .i64 (noteP l s).2]) := by
  have hr1 := idx_range (fun x : Se => decide (x.client = s.client)) l
  have hr2 := idx_range (fun x : Se => decide (s.client < x.client)) l
  refine FnP.of Try.func10 rfl rfl (by simp) (by simp [AV.cells, aSe]) (fun G hG => ?_)
  have hN : NoH G.length (.tup [.sl ((noteP l s).1.map aSe), .int .i64 (noteP l s).2]) := (by simp [AV.cells, aSe])
  refine AWP.seq ?_
  refine AWP.region (fun _ => ?_)
  refine ARun.box (j := 0) hG rfl rfl rfl rfl rfl (Ev.plain rfl) rfl rfl optN ?_
  refine ARun.move (.inr rfl) rfl rfl rfl (Ev.plain rfl) optN ?_
  refine ARun.move (.inr rfl) rfl rfl rfl (Ev.plain rfl) optN ?_
  refine ⟨_, _, rfl, hG, ?_⟩
  refine thenA_n ?_
  refine AWP.seq ?_
  refine AWP.region (fun _ => ?_)
  refine ARun.move (.inl rfl) rfl rfl rfl (Ev.plain rfl) optN ?_
  refine ARun.fieldBox rfl rfl rfl rfl Try.underlying24 rfl rfl sz3 (by decide) (Ev.plain rfl) ((hG.at _ _).trans rfl) optN ?_
  refine ARun.loadBox rfl rfl rfl rfl Try.underlying3 rfl (Ev.plain rfl) ((hG.at _ _).trans rfl) rfl optN ?_
  refine ARun.fieldBox rfl rfl rfl rfl Try.underlying24 rfl rfl sz3 (by decide) (Ev.plain rfl) ((hG.at _ _).trans rfl) optN ?_
  refine ARun.loadBox rfl rfl rfl rfl Try.underlying3 rfl (Ev.plain rfl) ((hG.at _ _).trans rfl) rfl optN ?_
  refine ARun.call rfl rfl rfl rfl cf8 (Ev.plain rfl) (.cons (Ev.plain rfl) (.cons (Ev.plain rfl) (.cons (Ev.plain rfl) .nil))) rfl (fun hg => ask_fn l s.client s.seq (by omega)) optN ?_
  refine ARun.move (.inl rfl) rfl rfl rfl (Ev.plain rfl) optN ?_
  refine ARun.extract rfl rfl rfl rfl (Ev.plain rfl) rfl optN ?_
  refine ARun.extract rfl rfl rfl rfl (Ev.plain rfl) rfl optN ?_
  refine ARun.extract rfl rfl rfl rfl (Ev.plain rfl) rfl optN ?_
  refine ARun.move (.inr rfl) rfl rfl rfl (Ev.plain rfl) optN ?_
  refine ARun.move (.inr rfl) rfl rfl rfl (Ev.plain rfl) optN ?_
  refine ARun.move (.inr rfl) rfl rfl rfl (Ev.plain rfl) optN ?_
  refine ⟨_, _, rfl, hG, ?_⟩
  refine thenA_n ?_
  refine AWP.seq ?_
  refine AWP.block ?_
  refine AWP.seq ?_
  refine AWP.region (fun _ => ?_)
  refine ARun.move (.inl rfl) rfl rfl rfl (Ev.plain rfl) optN ?_
  refine ARun.cmp rfl rfl rfl rfl (Ev.plain rfl) (Ev.plain rfl) rfl optN ?_
  refine ARun.move (.inr rfl) rfl rfl rfl (Ev.plain rfl) optN ?_
  refine ⟨_, _, rfl, hG, ?_⟩
  refine thenA_n ?_
  refine AWP.cond rfl (fun h0 => ?_) (fun h0 => ?_)
  · skip
    try simp at h0
    refine AWP.seq ?_
    refine AWP.region (fun _ => ?_)
    refine ARun.move (.inl rfl) rfl rfl rfl (Ev.plain rfl) optN ?_
    refine ARun.move (.inr rfl) rfl rfl rfl (Ev.plain rfl) optN ?_
    refine ARun.move (.inr rfl) rfl rfl rfl (Ev.plain rfl) optN ?_
    refine ⟨_, _, rfl, hG, ?_⟩
    refine thenA_n ?_
    refine AWP.ret ?_
    refine blockA_r ?_
    refine thenA_r ?_
    refine endF.many (.inr rfl) (rs := [.tmp 4, .tmp 5]) rfl (.cons (.tmp rfl) (.cons (.tmp rfl) .nil)) (by simp) ?_ hN
    rw [show noteP l s = ([], (askP l s.client s.seq).2.2) from by unfold noteP; rw [if_neg h0]]; rfl
  · skip
    try simp at h0
    refine AWP.seq ?_
    refine AWP.region (fun _ => ?_)
    refine ARun.loadBoxA rfl rfl rfl rfl Try.underlying24 rfl sz24 (Ev.plain rfl) ((hG.at _ _).trans rfl) rfl rfl optN ?_
    refine ARun.call rfl rfl rfl rfl cf19 (Ev.plain rfl) (.cons (Ev.plain rfl) .nil) rfl (fun hg => may_fn s) optN ?_
    refine ARun.not rfl rfl rfl rfl (Ev.plain rfl) optN ?_
    refine ARun.move (.inr rfl) rfl rfl rfl (Ev.plain rfl) optN ?_
    refine ⟨_, _, rfl, hG, ?_⟩
    refine thenA_n ?_
    refine AWP.cond rfl (fun h1 => ?_) (fun h1 => ?_)
    · skip
      try simp at h1
      refine AWP.seq ?_
      refine AWP.region (fun _ => ?_)
      refine ARun.move (.inr rfl) rfl rfl rfl (Ev.plain rfl) optN ?_
      refine ARun.move (.inr rfl) rfl rfl rfl (Ev.plain rfl) optN ?_
      refine ⟨_, _, rfl, hG, ?_⟩
      refine thenA_n ?_
      refine AWP.ret ?_
      refine blockA_r ?_
      refine thenA_r ?_
      refine endF.many (.inr rfl) (rs := [.tmp 4, .tmp 5]) rfl (.cons (.tmp rfl) (.cons (.tmp rfl) .nil)) (by simp) ?_ hN
      rw [show noteP l s = ([], 2) from by unfold noteP; rw [if_pos h0, if_neg (by simp [h1])]]; rfl
    · skip
      try simp at h1
      refine AWP.seq ?_
      refine AWP.region (fun _ => ?_)
      refine ARun.move (.inl rfl) rfl rfl rfl (Ev.plain rfl) optN ?_
      refine ARun.move (.inr rfl) rfl rfl rfl (Ev.plain rfl) optN ?_
      refine ⟨_, _, rfl, hG, ?_⟩
      refine thenA_n ?_
      refine AWP.cond rfl (fun h2 => ?_) (fun h2 => ?_)
      · skip
        try simp at h2
        refine AWP.seq ?_
        refine AWP.region (fun _ => ?_)
        refine ARun.move (.inr rfl) rfl rfl rfl (Ev.plain rfl) optN ?_
        refine ARun.move (.inr rfl) rfl rfl rfl (Ev.plain rfl) optN ?_
        refine ⟨_, _, rfl, hG, ?_⟩
        refine thenA_n ?_
        refine AWP.ret ?_
        refine blockA_r ?_
        refine thenA_r ?_
        refine endF.many (.inr rfl) (rs := [.tmp 4, .tmp 5]) rfl (.cons (.tmp rfl) (.cons (.tmp rfl) .nil)) (by simp) ?_ hN
        rw [show noteP l s = ([], 41) from by unfold noteP; rw [if_pos h0, if_pos h1, if_pos h2]]; rfl
      · skip
        try simp at h2
        refine AWP.skip ?_
        refine blockA_n ?_
        refine thenA_n ?_
        refine AWP.seq ?_
        refine AWP.region (fun _ => ?_)
        refine ARun.move (.inl rfl) rfl rfl rfl (Ev.plain rfl) optN ?_
        refine ARun.callNew (j := 1) hG rfl rfl rfl rfl rfl cf20 (Ev.plain rfl) (.cons (Ev.plain rfl) .nil) rfl (clone_new l (by omega)) optN ?_
        refine ARun.move (.inr rfl) rfl rfl rfl (Ev.plain rfl) optN ?_
        refine ⟨_, _, rfl, hG, ?_⟩
        refine thenA_n ?_
        refine AWP.seq ?_
        refine AWP.seq ?_
        refine AWP.region (fun _ => ?_)
        refine ARun.move (.inl rfl) rfl rfl rfl (Ev.plain rfl) optN ?_
        refine ARun.fieldBox rfl rfl rfl rfl Try.underlying24 rfl rfl sz3 (by decide) (Ev.plain rfl) ((hG.at _ _).trans rfl) optN ?_
        refine ARun.loadBox rfl rfl rfl rfl Try.underlying3 rfl (Ev.plain rfl) ((hG.at _ _).trans rfl) rfl optN ?_
        refine ARun.call rfl rfl rfl rfl cf22 (Ev.plain rfl) (.cons (Ev.plain rfl) .nil) rfl (fun hg => of_fn _) optN ?_
        refine ARun.callLent rfl rfl rfl rfl cf21 (Ev.plain rfl) (.cons (Ev.plain rfl) (.cons (Ev.plain rfl) .nil)) rfl (.own ((hG.at _ _).trans rfl) (by simp [maxLen]; omega) (.same .nil)) (indexSe 26 [] [.pe [.int .i64 s.client]] (fun x => decide (x.client = s.client)) l (by omega) cf26 (by simp) (fun x _ => off_fn x s.client)) (by simp [AV.cells, aSe]) optN ?_
        refine ARun.move (.inr rfl) rfl rfl rfl (Ev.plain rfl) optN ?_
        refine ⟨_, _, rfl, hG, ?_⟩
        refine thenA_n ?_
        refine AWP.seq ?_
        refine AWP.region (fun _ => ?_)
        refine ARun.move (.inl rfl) rfl rfl rfl (Ev.plain rfl) optN ?_
        refine ARun.cmp rfl rfl rfl rfl (Ev.plain rfl) (Ev.plain rfl) rfl optN ?_
        refine ⟨_, _, rfl, hG, ?_⟩
        refine thenA_n ?_
        refine AWP.cond rfl (fun h3 => ?_) (fun h3 => ?_)
        · skip
          try simp at h3
          refine AWP.seq ?_
          refine AWP.region (fun _ => ?_)
          refine ARun.move (.inl rfl) rfl rfl rfl (Ev.plain rfl) optN ?_
          refine ARun.move (.inl rfl) rfl rfl rfl (Ev.plain rfl) optN ?_
          refine ARun.loadBoxA rfl rfl rfl rfl Try.underlying24 rfl sz24 (Ev.plain rfl) ((hG.at _ _).trans rfl) rfl rfl optN ?_
          refine ARun.indexOwn (j := (idxOf (fun x => decide (x.client = s.client)) l).toNat) rfl rfl rfl rfl Try.underlying22 sz24 ((hG.at _ _).trans rfl) (Ev.plain rfl) (Ev.plain rfl) (fun hg => ofNonneg (by omega)) (fun hg => (by simp; omega)) optN ?_
          refine ARun.storeEltL (zs := (l.map aSe).set (idxOf (fun x => decide (x.client = s.client)) l).toNat (aSe s)) hG rfl rfl rfl sz24 (Ev.plain rfl) (Ev.plain rfl) rfl rfl rfl rfl rfl (by simp; omega) (flat_set _ _ (aSe s) (by simp [aSe, AV.cells]) rfl (by simp; omega)) (by simp) (set_cells (by simp [aSe, AV.cells]) rfl) rfl ?_
          refine ⟨_, _, rfl, hG, ?_⟩
          refine thenA_n ?_
          refine AWP.seq ?_
          refine AWP.region (fun _ => ?_)
          refine ARun.move (.inl rfl) rfl rfl rfl (Ev.plain rfl) optN ?_
          refine ARun.move (.inr rfl) rfl rfl rfl (Ev.plain rfl) optN ?_
          refine ARun.move (.inr rfl) rfl rfl rfl (Ev.plain rfl) optN ?_
          refine ⟨_, _, rfl, hG, ?_⟩
          refine thenA_n ?_
          refine AWP.frzOwn 4 hG rfl rfl (by decide) (by simp [maxLen]; omega) rfl ?_
          refine AWP.ret ?_
          refine thenA_r ?_
          refine endF.many (.inr rfl) (rs := [.tmp 4, .tmp 5]) rfl (.cons (.tmp rfl) (.cons (.tmp rfl) .nil)) (by simp) ?_ hN
          rw [show noteP l s = (putP l s, 0) from by unfold noteP; rw [if_pos h0, if_pos h1, if_neg (by simp [h2])], show (putP l s).map aSe = _ from by unfold putP; rw [if_pos (by omega), List.map_set]]; rfl
        · skip
          try simp at h3
          refine AWP.skip ?_
          refine thenA_n ?_
          refine AWP.seq ?_
          refine AWP.frzBox 3 hG rfl rfl rfl ?_
          refine AWP.region (fun _ => ?_)
          refine ARun.move (.inl rfl) rfl rfl rfl (Ev.plain rfl) optN ?_
          refine ARun.makeFunc rfl rfl rfl rfl .nil (.cons (Ev.plain rfl) .nil) optN ?_
          refine ARun.callLent rfl rfl rfl rfl cf21 (Ev.plain rfl) (.cons (Ev.plain rfl) (.cons (Ev.plain rfl) .nil)) rfl (.own ((hG.at _ _).trans rfl) (by simp [maxLen]; omega) (.same .nil)) (indexSe 23 [] [.pe (aSe s).cells] (fun x => decide (s.client < x.client)) l (by omega) cf23 (by simp [aSe, AV.cells]) (fun x _ => noteF_fn x s)) (by simp [AV.cells, aSe]) optN ?_
          refine ARun.move (.inr rfl) rfl rfl rfl (Ev.plain rfl) optN ?_
          refine ⟨_, _, rfl, hG, ?_⟩
          refine thenA_n ?_
          refine AWP.seq ?_
          refine AWP.seq ?_
          refine AWP.region (fun _ => ?_)
          refine ARun.move (.inl rfl) rfl rfl rfl (Ev.plain rfl) optN ?_
          refine ARun.cmp rfl rfl rfl rfl (Ev.plain rfl) (Ev.plain rfl) rfl optN ?_
          refine ⟨_, _, rfl, hG, ?_⟩
          refine thenA_n ?_
          refine AWP.cond rfl (fun h4 => ?_) (fun h4 => ?_)
          · skip
            try simp at h4
            refine AWP.region (fun _ => ?_)
            refine ARun.move (.inl rfl) rfl rfl rfl (Ev.plain rfl) optN ?_
            refine ARun.lenOwn rfl rfl rfl rfl Try.underlying22 (Ev.plain rfl) ((hG.at _ _).trans rfl) optN ?_
            refine ARun.move (.inr rfl) rfl rfl rfl (Ev.plain rfl) optN ?_
            refine ⟨_, _, rfl, hG, ?_⟩
            refine thenA_n ?_
            refine AWP.seq ?_
            refine AWP.region (fun _ => ?_)
            refine ARun.move (.inl rfl) rfl rfl rfl (Ev.plain rfl) optN ?_
            refine ARun.move (.inl rfl) rfl rfl rfl (Ev.plain rfl) optN ?_
            refine ARun.loadPeA rfl rfl rfl rfl Try.underlying24 rfl sz24 (Ev.plain rfl) rfl optN ?_
            refine ARun.buildOwn (j := 2) hG rfl rfl rfl rfl rfl Try.underlying22 sz24 zv24 rfl (by decide) (.cons (Ev.plain rfl) .nil) rfl rfl rfl rfl (by decide) rfl rfl optN ?_
            refine ARun.callSet (j := 1) hG rfl rfl rfl rfl cf24 (Ev.plain rfl) (.cons (Ev.plain rfl) (.cons (Ev.plain rfl) (.cons (Ev.plain rfl) .nil))) rfl (insertSe_fn (l.map aSe) (aSe s) l.length (by simp) (by simp; omega) (by simp [aSe, AV.cells, AV.one]) rfl (i := G.length + 1) (i2 := G.length + 2) (by simp) ((hG.at _ _).trans rfl) ((hG.at _ _).trans rfl) (by omega)) rfl optN ?_
            refine ARun.move (.inr rfl) rfl rfl rfl (Ev.plain rfl) optN ?_
            refine ARun.move (.inr rfl) rfl rfl rfl (Ev.plain rfl) optN ?_
            refine ⟨_, _, rfl, hG, ?_⟩
            refine thenA_n ?_
            refine AWP.frzOwn 4 hG rfl rfl (by decide) (by simp [maxLen]; omega) rfl ?_
            refine AWP.ret ?_
            refine endF.many (.inr rfl) (rs := [.tmp 4, .tmp 5]) rfl (.cons (.tmp rfl) (.cons (.tmp rfl) .nil)) (by simp) ?_ hN
            rw [show noteP l s = (putP l s, 0) from by unfold noteP; rw [if_pos h0, if_pos h1, if_neg (by simp [h2])], show (putP l s).map aSe = (l.map aSe).take l.length ++ [aSe s] ++ (l.map aSe).drop l.length from by unfold putP; rw [if_neg (by omega), if_pos (by omega)]; exact ins_map _ _ _]; rfl
          · skip
            try simp at h4
            refine AWP.skip ?_
            refine thenA_n ?_
            refine AWP.seq ?_
            refine AWP.region (fun _ => ?_)
            refine ARun.move (.inl rfl) rfl rfl rfl (Ev.plain rfl) optN ?_
            refine ARun.move (.inl rfl) rfl rfl rfl (Ev.plain rfl) optN ?_
            refine ARun.loadPeA rfl rfl rfl rfl Try.underlying24 rfl sz24 (Ev.plain rfl) rfl optN ?_
            refine ARun.buildOwn (j := 2) hG rfl rfl rfl rfl rfl Try.underlying22 sz24 zv24 rfl (by decide) (.cons (Ev.plain rfl) .nil) rfl rfl rfl rfl (by decide) rfl rfl optN ?_
            refine ARun.callSet (j := 1) hG rfl rfl rfl rfl cf24 (Ev.plain rfl) (.cons (Ev.plain rfl) (.cons (Ev.plain rfl) (.cons (Ev.plain rfl) .nil))) rfl (insertSe_fn (l.map aSe) (aSe s) (idxOf (fun x => decide (s.client < x.client)) l).toNat (by simp; omega) (by simp; omega) (by simp [aSe, AV.cells, AV.one]) rfl (i := G.length + 1) (i2 := G.length + 2) (by omega) ((hG.at _ _).trans rfl) ((hG.at _ _).trans rfl) (by omega)) rfl optN ?_
            refine ARun.move (.inr rfl) rfl rfl rfl (Ev.plain rfl) optN ?_
            refine ARun.move (.inr rfl) rfl rfl rfl (Ev.plain rfl) optN ?_
            refine ⟨_, _, rfl, hG, ?_⟩
            refine thenA_n ?_
            refine AWP.frzOwn 4 hG rfl rfl (by decide) (by simp [maxLen]; omega) rfl ?_
            refine AWP.ret ?_
            refine endF.many (.inr rfl) (rs := [.tmp 4, .tmp 5]) rfl (.cons (.tmp rfl) (.cons (.tmp rfl) .nil)) (by simp) ?_ hN
            rw [show noteP l s = (putP l s, 0) from by unfold noteP; rw [if_pos h0, if_pos h1, if_neg (by simp [h2])], show (putP l s).map aSe = (l.map aSe).take (idxOf (fun x => decide (s.client < x.client)) l).toNat ++ [aSe s] ++ (l.map aSe).drop (idxOf (fun x => decide (s.client < x.client)) l).toNat from by unfold putP; rw [if_neg (by omega), if_neg (by omega)]; exact ins_map _ _ _]; rfl
end Go.Proofs.Ytjccjlflnlddpaa
