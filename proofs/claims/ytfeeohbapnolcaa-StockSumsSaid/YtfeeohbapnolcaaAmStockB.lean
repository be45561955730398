/- Stock: what changes it. -/
import Derived.Test.YtfeeohbapnolcaaAmStockA
import Derived.Test.YtfeeohbapnolcaaCloneIt
import Derived.Test.YtfeeohbapnolcaaInsertIt
namespace Go.Proofs.Ytfeeohbapnolcaa
set_option linter.unusedVariables false
set_option linter.unusedSimpArgs false
open Go.RowKit
open StockP
set_option maxRecDepth 100000
theorem set_cells {z : Nat} {xs : List AV} {k : Nat} {X : AV} (h : ∀ x, x ∈ xs → x.cells.length = z) (hX : X.cells.length = z) : ∀ x, x ∈ xs.set k X → x.cells.length = z := by
  intro x hx
  rcases List.mem_or_eq_of_mem_set hx with hx | rfl
  · exact h x hx
  · exact hX
theorem with_no {g : It → It × Int} {l : List It} {id q : Int} (h : askedB l q = true) (h2 : idx (fun x => x.id == id) l < 0) : withP g l id q = ([], 40) := by
  unfold withP; rw [if_pos h, dif_neg (idx_neg.1 h2)]
theorem with_bad {g : It → It × Int} {l : List It} {id q : Int} (h : askedB l q = true) (h2 : ¬ idx (fun x => x.id == id) l < 0) (h3 : ¬ (g (l.getD (idx (fun x => x.id == id) l).toNat default)).2 = 0) : withP g l id q = ([], (g (l.getD (idx (fun x => x.id == id) l).toNat default)).2) := by
  obtain ⟨p1, p2⟩ := idx_pos h2
  rw [p2, Int.toNat_natCast, It_idx p1] at h3 ⊢
  unfold withP; rw [if_pos h, dif_pos p1, if_neg h3]
theorem with_good {g : It → It × Int} {l : List It} {id q : Int} (h : askedB l q = true) (h2 : ¬ idx (fun x => x.id == id) l < 0) (h3 : (g (l.getD (idx (fun x => x.id == id) l).toNat default)).2 = 0) : withP g l id q = (l.set (idx (fun x => x.id == id) l).toNat (g (l.getD (idx (fun x => x.id == id) l).toNat default)).1, 0) := by
  obtain ⟨p1, p2⟩ := idx_pos h2
  rw [p2, Int.toNat_natCast, It_idx p1] at h3 ⊢
  unfold withP; rw [if_pos h, dif_pos p1, if_pos h3]
theorem ins_map (l : List It) (s : It) (k : Nat) : (l.take k ++ [s] ++ l.drop k).map aIt = (l.map aIt).take k ++ [aIt s] ++ (l.map aIt).drop k := by
  rw [List.map_append, List.map_append, List.map_take, List.map_drop]; rfl
theorem idx_range (q : It → Bool) (l : List It) : -1 ≤ idx q l ∧ idx q l < l.length := by
  unfold idx; split <;> omega
theorem may_at {l : List It} {q : Int} {k : Nat} (h : askedB l q = true) (hk : k < l.length) : may (l.getD k default) = true := by
  rw [It_idx hk]; exact ok_may (askedB_ok h).1 _ (List.getElem_mem hk)
theorem clone_new (l : List It) (hl : l.length ≤ 1000000) : FnNew Try.prog 28 [.sl (l.map aIt)] 34 4 (l.map aIt) :=
  FnNew.of_owns encIt aIt 4 encIt_len (fun x => rfl) (fun x u hu => by simp [encIt] at hu; rcases hu with rfl | rfl | rfl | rfl <;> rfl) l (fun w a cap hr _ _ _ => cloneIt_any a cap l w hr hl)
set_option maxHeartbeats 1000000 in
theorem with_fn (F : Nat) (fs : List AV) (g : It → It × Int) (l : List It) (id q : Int) (hl : l.length ≤ 1000) (hcf : ∀ (vs : Array Value) (W : World), (callFunc F vs).run Try.prog W = .ok (.enter F vs) W) (hn : ∀ x, x ∈ fs → NoH 0 x) (hp : ∀ x, may x = true → 1 ≤ q ∧ q ≤ 1000000 → FnP Try.prog F (fs ++ [aIt x] ++ []) (.tup [aIt (g x).1, .int .i64 (g x).2])) : FnP Try.prog 31 [.sl (l.map aIt), .int .i64 id, .int .i64 q, .fn (.func F) fs []] (.tup [.sl ((withP g l id q).1.map aIt), .int .i64 (withP g l id q).2]) := by
  have hr := idx_range (fun x => x.id == id) l
  have hbd := fun h => asked_bd (l := l) (q := q) h
  refine FnP.of Try.func31 rfl rfl (by simp) (by simp [AV.cells, aIt]) (fun G hG => ?_)
  have hN : NoH G.length (.tup [.sl ((withP g l id q).1.map aIt), .int .i64 (withP g l id q).2]) := (by simp [AV.cells, aIt])
  refine AWP.seq ?_
  refine AWP.region (fun _ => ?_)
  refine ARun.move (.inr rfl) rfl rfl rfl (Ev.plain rfl) optN ?_
  refine ARun.move (.inr rfl) rfl rfl rfl (Ev.plain rfl) optN ?_
  refine ⟨_, _, rfl, hG, ?_⟩
  refine thenA_n ?_
  refine AWP.seq ?_
  refine AWP.seq ?_
  refine AWP.region (fun _ => ?_)
  refine ARun.move (.inl rfl) rfl rfl rfl (Ev.plain rfl) optN ?_
  refine ARun.move (.inl rfl) rfl rfl rfl (Ev.plain rfl) optN ?_
  refine ARun.call rfl rfl rfl rfl cf36 (Ev.plain rfl) (.cons (Ev.plain rfl) (.cons (Ev.plain rfl) .nil)) rfl (fun hg => asked_fn l q) optN ?_
  refine ARun.not rfl rfl rfl rfl (Ev.plain rfl) optN ?_
  refine ⟨_, _, rfl, hG, ?_⟩
  refine thenA_n ?_
  refine AWP.cond rfl (fun h0 => ?_) (fun h0 => ?_)
  · skip
    try simp at h0
    refine AWP.seq ?_
    refine AWP.region (fun _ => ?_)
    refine ARun.move (.inr rfl) rfl rfl rfl (Ev.plain rfl) optN ?_
    refine ARun.move (.inr rfl) rfl rfl rfl (Ev.plain rfl) optN ?_
    refine ⟨_, _, rfl, hG, ?_⟩
    refine thenA_n ?_
    refine AWP.ret ?_
    refine thenA_r ?_
    refine endF.many (.inr rfl) (rs := [.tmp 8, .tmp 9]) rfl (.cons (.tmp rfl) (.cons (.tmp rfl) .nil)) (by simp) ?_ hN
    rw [show withP g l id q = ([], 2) from by unfold withP; rw [if_neg (by simp [h0])]]; rfl
  · skip
    try simp at h0
    refine AWP.skip ?_
    refine thenA_n ?_
    refine AWP.seq ?_
    refine AWP.region (fun _ => ?_)
    refine ARun.move (.inl rfl) rfl rfl rfl (Ev.plain rfl) optN ?_
    refine ARun.move (.inl rfl) rfl rfl rfl (Ev.plain rfl) optN ?_
    refine ARun.call rfl rfl rfl rfl cf24 (Ev.plain rfl) (.cons (Ev.plain rfl) (.cons (Ev.plain rfl) .nil)) rfl (fun hg => at_fn l id (by omega)) optN ?_
    refine ARun.move (.inr rfl) rfl rfl rfl (Ev.plain rfl) optN ?_
    refine ⟨_, _, rfl, hG, ?_⟩
    refine thenA_n ?_
    refine AWP.seq ?_
    refine AWP.seq ?_
    refine AWP.region (fun _ => ?_)
    refine ARun.move (.inl rfl) rfl rfl rfl (Ev.plain rfl) optN ?_
    refine ARun.cmp rfl rfl rfl rfl (Ev.plain rfl) (Ev.plain rfl) rfl optN ?_
    refine ⟨_, _, rfl, hG, ?_⟩
    refine thenA_n ?_
    refine AWP.cond rfl (fun h1 => ?_) (fun h1 => ?_)
    · skip
      try simp at h1
      refine AWP.seq ?_
      refine AWP.region (fun _ => ?_)
      refine ARun.move (.inr rfl) rfl rfl rfl (Ev.plain rfl) optN ?_
      refine ARun.move (.inr rfl) rfl rfl rfl (Ev.plain rfl) optN ?_
      refine ⟨_, _, rfl, hG, ?_⟩
      refine thenA_n ?_
      refine AWP.ret ?_
      refine thenA_r ?_
      refine endF.many (.inr rfl) (rs := [.tmp 8, .tmp 9]) rfl (.cons (.tmp rfl) (.cons (.tmp rfl) .nil)) (by simp) ?_ hN
      rw [with_no h0 h1]; rfl
    · skip
      try simp at h1
      refine AWP.skip ?_
      refine thenA_n ?_
      refine AWP.seq ?_
      refine AWP.region (fun _ => ?_)
      refine ARun.move (.inl rfl) rfl rfl rfl (Ev.plain rfl) optN ?_
      refine ARun.move (.inl rfl) rfl rfl rfl (Ev.plain rfl) optN ?_
      refine ARun.move (.inl rfl) rfl rfl rfl (Ev.plain rfl) optN ?_
      first | refine ARun.indexSl rfl rfl rfl rfl Try.underlying22 sz34 (Ev.plain rfl) (Ev.plain rfl) (fun _ => rfl) (fun hg => getMap _ _ _ (by (try simp at hg); omega)) rfl rfl optN ?_ | refine ARun.indexSl rfl rfl rfl rfl Try.underlying22 sz34 (Ev.plain rfl) (Ev.plain rfl) (fun hg => ofNonneg (by (try simp at hg); omega)) (fun hg => getMap _ _ _ (by (try simp at hg); omega)) rfl rfl optN ?_
      refine ARun.loadPeA rfl rfl rfl rfl Try.underlying34 rfl sz34 (Ev.plain rfl) rfl optN ?_
      refine ARun.call rfl rfl rfl rfl hcf (Ev.plain rfl) (.cons (Ev.plain rfl) .nil) rfl (fun hg => hp _ (may_at h0 (by omega)) ⟨(hbd h0).1, (hbd h0).2.1⟩) optN ?_
      refine ARun.move (.inl rfl) rfl rfl rfl (Ev.plain rfl) optN ?_
      refine ARun.extract rfl rfl rfl rfl (Ev.plain rfl) rfl optN ?_
      refine ARun.extract rfl rfl rfl rfl (Ev.plain rfl) rfl optN ?_
      refine ARun.alloc (j := 0) hG rfl rfl rfl rfl rfl zv34 rfl optN ?_
      refine ARun.storeL hG rfl rfl rfl sz34 (Ev.plain rfl) (Ev.plain rfl) rfl rfl rfl rfl rfl (Nat.le_of_ble_eq_true rfl) rfl rfl ?_
      refine ARun.move (.inr rfl) rfl rfl rfl (Ev.plain rfl) optN ?_
      refine ⟨_, _, rfl, hG, ?_⟩
      refine thenA_n ?_
      refine AWP.seq ?_
      refine AWP.seq ?_
      refine AWP.region (fun _ => ?_)
      refine ARun.move (.inl rfl) rfl rfl rfl (Ev.plain rfl) optN ?_
      refine ARun.cmp rfl rfl rfl rfl (Ev.plain rfl) (Ev.plain rfl) rfl optN ?_
      refine ⟨_, _, rfl, hG, ?_⟩
      refine thenA_n ?_
      refine AWP.cond rfl (fun h2 => ?_) (fun h2 => ?_)
      · skip
        try simp at h2
        refine AWP.seq ?_
        refine AWP.region (fun _ => ?_)
        refine ARun.move (.inl rfl) rfl rfl rfl (Ev.plain rfl) optN ?_
        refine ARun.move (.inr rfl) rfl rfl rfl (Ev.plain rfl) optN ?_
        refine ARun.move (.inr rfl) rfl rfl rfl (Ev.plain rfl) optN ?_
        refine ⟨_, _, rfl, hG, ?_⟩
        refine thenA_n ?_
        refine AWP.ret ?_
        refine thenA_r ?_
        refine endF.many (.inr rfl) (rs := [.tmp 8, .tmp 9]) rfl (.cons (.tmp rfl) (.cons (.tmp rfl) .nil)) (by simp) ?_ hN
        rw [with_bad h0 (by omega) h2]; rfl
      · skip
        try simp at h2
        refine AWP.skip ?_
        refine thenA_n ?_
        refine AWP.seq ?_
        refine AWP.region (fun _ => ?_)
        refine ARun.move (.inl rfl) rfl rfl rfl (Ev.plain rfl) optN ?_
        refine ARun.callNew (j := 1) hG rfl rfl rfl rfl rfl cf28 (Ev.plain rfl) (.cons (Ev.plain rfl) .nil) rfl (clone_new l (by omega)) optN ?_
        refine ARun.move (.inr rfl) rfl rfl rfl (Ev.plain rfl) optN ?_
        refine ⟨_, _, rfl, hG, ?_⟩
        refine thenA_n ?_
        refine AWP.seq ?_
        refine AWP.region (fun _ => ?_)
        refine ARun.move (.inl rfl) rfl rfl rfl (Ev.plain rfl) optN ?_
        refine ARun.move (.inl rfl) rfl rfl rfl (Ev.plain rfl) optN ?_
        refine ARun.loadBoxA rfl rfl rfl rfl Try.underlying34 rfl sz34 (Ev.plain rfl) ((hG.at _ _).trans rfl) rfl rfl optN ?_
        refine ARun.indexOwn (j := (idx (fun x => x.id == id) l).toNat) rfl rfl rfl rfl Try.underlying22 sz34 ((hG.at _ _).trans rfl) (Ev.plain rfl) (Ev.plain rfl) (fun hg => ofNonneg (by omega)) (fun hg => (by simp; omega)) optN ?_
        refine ARun.storeEltL (zs := (l.map aIt).set (idx (fun x => x.id == id) l).toNat (aIt (g (l.getD (idx (fun x => x.id == id) l).toNat default)).1)) hG rfl rfl rfl sz34 (Ev.plain rfl) (Ev.plain rfl) rfl rfl rfl rfl rfl (by simp; omega) (flat_set _ _ (aIt (g (l.getD (idx (fun x => x.id == id) l).toNat default)).1) (by simp [aIt, AV.cells]) rfl (by simp; omega)) (by simp) (set_cells (by simp [aIt, AV.cells]) rfl) rfl ?_
        refine ⟨_, _, rfl, hG, ?_⟩
        refine thenA_n ?_
        refine AWP.seq ?_
        refine AWP.region (fun _ => ?_)
        refine ARun.move (.inl rfl) rfl rfl rfl (Ev.plain rfl) optN ?_
        refine ARun.move (.inr rfl) rfl rfl rfl (Ev.plain rfl) optN ?_
        refine ARun.move (.inr rfl) rfl rfl rfl (Ev.plain rfl) optN ?_
        refine ⟨_, _, rfl, hG, ?_⟩
        refine thenA_n ?_
        refine AWP.frzOwn 8 hG rfl rfl (by decide) (by simp [maxLen]; omega) rfl ?_
        refine AWP.ret ?_
        refine endF.many (.inr rfl) (rs := [.tmp 8, .tmp 9]) rfl (.cons (.tmp rfl) (.cons (.tmp rfl) .nil)) (by simp) ?_ hN
        rw [with_good h0 (by omega) h2, List.map_set]; rfl
set_option maxHeartbeats 1000000 in
theorem restock_fn (l : List It) (id q : Int) (hl : l.length ≤ 1000) : FnP Try.prog 10 [.sl (l.map aIt), .int .i64 id, .int .i64 q] (.tup [.sl ((withP (inG q) l id q).1.map aIt), .int .i64 (withP (inG q) l id q).2]) := by
  refine FnP.of Try.func10 rfl rfl (by simp) (by simp [AV.cells, aIt]) (fun G hG => ?_)
  have hN : NoH G.length (.tup [.sl ((withP (inG q) l id q).1.map aIt), .int .i64 (withP (inG q) l id q).2]) := (by simp [AV.cells, aIt])
  refine AWP.seq ?_
  refine AWP.region (fun _ => ?_)
  refine ARun.move (.inr rfl) rfl rfl rfl (Ev.plain rfl) optN ?_
  refine ARun.move (.inr rfl) rfl rfl rfl (Ev.plain rfl) optN ?_
  refine ⟨_, _, rfl, hG, ?_⟩
  refine thenA_n ?_
  refine AWP.seq ?_
  refine AWP.region (fun _ => ?_)
  refine ARun.move (.inl rfl) rfl rfl rfl (Ev.plain rfl) optN ?_
  refine ARun.makeFunc rfl rfl rfl rfl (.cons (Ev.plain rfl) .nil) .nil optN ?_
  refine ARun.move (.inr rfl) rfl rfl rfl (Ev.plain rfl) optN ?_
  refine ⟨_, _, rfl, hG, ?_⟩
  refine thenA_n ?_
  refine AWP.seq ?_
  refine AWP.region (fun _ => ?_)
  refine ARun.move (.inl rfl) rfl rfl rfl (Ev.plain rfl) optN ?_
  refine ARun.move (.inl rfl) rfl rfl rfl (Ev.plain rfl) optN ?_
  refine ARun.move (.inl rfl) rfl rfl rfl (Ev.plain rfl) optN ?_
  refine ARun.move (.inl rfl) rfl rfl rfl (Ev.plain rfl) optN ?_
  refine ARun.call rfl rfl rfl rfl cf31 (Ev.plain rfl) (.cons (Ev.plain rfl) (.cons (Ev.plain rfl) (.cons (Ev.plain rfl) (.cons (Ev.plain rfl) .nil)))) rfl (fun hg => with_fn 30 [.int .i64 q] (inG q) l id q hl cf30 (by simp) (fun x hx hq => inA_fn q x hx hq)) optN ?_
  refine ARun.extract rfl rfl rfl rfl (Ev.plain rfl) rfl optN ?_
  refine ARun.extract rfl rfl rfl rfl (Ev.plain rfl) rfl optN ?_
  refine ARun.move (.inr rfl) rfl rfl rfl (Ev.plain rfl) optN ?_
  refine ARun.move (.inr rfl) rfl rfl rfl (Ev.plain rfl) optN ?_
  refine ⟨_, _, rfl, hG, ?_⟩
  refine thenA_n ?_
  refine AWP.ret ?_
  refine endF.many (.inr rfl) (rs := [.tmp 6, .tmp 7]) rfl (.cons (.tmp rfl) (.cons (.tmp rfl) .nil)) (by simp) ?_ hN
  rfl
set_option maxHeartbeats 1000000 in
theorem reserve_fn (l : List It) (id q : Int) (hl : l.length ≤ 1000) : FnP Try.prog 12 [.sl (l.map aIt), .int .i64 id, .int .i64 q] (.tup [.sl ((withP (holdG q) l id q).1.map aIt), .int .i64 (withP (holdG q) l id q).2]) := by
  refine FnP.of Try.func12 rfl rfl (by simp) (by simp [AV.cells, aIt]) (fun G hG => ?_)
  have hN : NoH G.length (.tup [.sl ((withP (holdG q) l id q).1.map aIt), .int .i64 (withP (holdG q) l id q).2]) := (by simp [AV.cells, aIt])
  refine AWP.seq ?_
  refine AWP.region (fun _ => ?_)
  refine ARun.move (.inr rfl) rfl rfl rfl (Ev.plain rfl) optN ?_
  refine ARun.move (.inr rfl) rfl rfl rfl (Ev.plain rfl) optN ?_
  refine ⟨_, _, rfl, hG, ?_⟩
  refine thenA_n ?_
  refine AWP.seq ?_
  refine AWP.region (fun _ => ?_)
  refine ARun.move (.inl rfl) rfl rfl rfl (Ev.plain rfl) optN ?_
  refine ARun.makeFunc rfl rfl rfl rfl (.cons (Ev.plain rfl) .nil) .nil optN ?_
  refine ARun.move (.inr rfl) rfl rfl rfl (Ev.plain rfl) optN ?_
  refine ⟨_, _, rfl, hG, ?_⟩
  refine thenA_n ?_
  refine AWP.seq ?_
  refine AWP.region (fun _ => ?_)
  refine ARun.move (.inl rfl) rfl rfl rfl (Ev.plain rfl) optN ?_
  refine ARun.move (.inl rfl) rfl rfl rfl (Ev.plain rfl) optN ?_
  refine ARun.move (.inl rfl) rfl rfl rfl (Ev.plain rfl) optN ?_
  refine ARun.move (.inl rfl) rfl rfl rfl (Ev.plain rfl) optN ?_
  refine ARun.call rfl rfl rfl rfl cf31 (Ev.plain rfl) (.cons (Ev.plain rfl) (.cons (Ev.plain rfl) (.cons (Ev.plain rfl) (.cons (Ev.plain rfl) .nil)))) rfl (fun hg => with_fn 33 [.int .i64 q] (holdG q) l id q hl cf33 (by simp) (fun x hx hq => holdA_fn q x hx hq)) optN ?_
  refine ARun.extract rfl rfl rfl rfl (Ev.plain rfl) rfl optN ?_
  refine ARun.extract rfl rfl rfl rfl (Ev.plain rfl) rfl optN ?_
  refine ARun.move (.inr rfl) rfl rfl rfl (Ev.plain rfl) optN ?_
  refine ARun.move (.inr rfl) rfl rfl rfl (Ev.plain rfl) optN ?_
  refine ⟨_, _, rfl, hG, ?_⟩
  refine thenA_n ?_
  refine AWP.ret ?_
  refine endF.many (.inr rfl) (rs := [.tmp 6, .tmp 7]) rfl (.cons (.tmp rfl) (.cons (.tmp rfl) .nil)) (by simp) ?_ hN
  rfl
set_option maxHeartbeats 1000000 in
theorem release_fn (l : List It) (id q : Int) (hl : l.length ≤ 1000) : FnP Try.prog 14 [.sl (l.map aIt), .int .i64 id, .int .i64 q] (.tup [.sl ((withP (freeG q) l id q).1.map aIt), .int .i64 (withP (freeG q) l id q).2]) := by
  refine FnP.of Try.func14 rfl rfl (by simp) (by simp [AV.cells, aIt]) (fun G hG => ?_)
  have hN : NoH G.length (.tup [.sl ((withP (freeG q) l id q).1.map aIt), .int .i64 (withP (freeG q) l id q).2]) := (by simp [AV.cells, aIt])
  refine AWP.seq ?_
  refine AWP.region (fun _ => ?_)
  refine ARun.move (.inr rfl) rfl rfl rfl (Ev.plain rfl) optN ?_
  refine ARun.move (.inr rfl) rfl rfl rfl (Ev.plain rfl) optN ?_
  refine ⟨_, _, rfl, hG, ?_⟩
  refine thenA_n ?_
  refine AWP.seq ?_
  refine AWP.region (fun _ => ?_)
  refine ARun.move (.inl rfl) rfl rfl rfl (Ev.plain rfl) optN ?_
  refine ARun.makeFunc rfl rfl rfl rfl (.cons (Ev.plain rfl) .nil) .nil optN ?_
  refine ARun.move (.inr rfl) rfl rfl rfl (Ev.plain rfl) optN ?_
  refine ⟨_, _, rfl, hG, ?_⟩
  refine thenA_n ?_
  refine AWP.seq ?_
  refine AWP.region (fun _ => ?_)
  refine ARun.move (.inl rfl) rfl rfl rfl (Ev.plain rfl) optN ?_
  refine ARun.move (.inl rfl) rfl rfl rfl (Ev.plain rfl) optN ?_
  refine ARun.move (.inl rfl) rfl rfl rfl (Ev.plain rfl) optN ?_
  refine ARun.move (.inl rfl) rfl rfl rfl (Ev.plain rfl) optN ?_
  refine ARun.call rfl rfl rfl rfl cf31 (Ev.plain rfl) (.cons (Ev.plain rfl) (.cons (Ev.plain rfl) (.cons (Ev.plain rfl) (.cons (Ev.plain rfl) .nil)))) rfl (fun hg => with_fn 34 [.int .i64 q] (freeG q) l id q hl cf34 (by simp) (fun x hx hq => freeA_fn q x hx hq)) optN ?_
  refine ARun.extract rfl rfl rfl rfl (Ev.plain rfl) rfl optN ?_
  refine ARun.extract rfl rfl rfl rfl (Ev.plain rfl) rfl optN ?_
  refine ARun.move (.inr rfl) rfl rfl rfl (Ev.plain rfl) optN ?_
  refine ARun.move (.inr rfl) rfl rfl rfl (Ev.plain rfl) optN ?_
  refine ⟨_, _, rfl, hG, ?_⟩
  refine thenA_n ?_
  refine AWP.ret ?_
  refine endF.many (.inr rfl) (rs := [.tmp 6, .tmp 7]) rfl (.cons (.tmp rfl) (.cons (.tmp rfl) .nil)) (by simp) ?_ hN
  rfl
set_option maxHeartbeats 1000000 in
theorem ship_fn (l : List It) (id q : Int) (hl : l.length ≤ 1000) : FnP Try.prog 15 [.sl (l.map aIt), .int .i64 id, .int .i64 q] (.tup [.sl ((withP (shipG q) l id q).1.map aIt), .int .i64 (withP (shipG q) l id q).2]) := by
  refine FnP.of Try.func15 rfl rfl (by simp) (by simp [AV.cells, aIt]) (fun G hG => ?_)
  have hN : NoH G.length (.tup [.sl ((withP (shipG q) l id q).1.map aIt), .int .i64 (withP (shipG q) l id q).2]) := (by simp [AV.cells, aIt])
  refine AWP.seq ?_
  refine AWP.region (fun _ => ?_)
  refine ARun.move (.inr rfl) rfl rfl rfl (Ev.plain rfl) optN ?_
  refine ARun.move (.inr rfl) rfl rfl rfl (Ev.plain rfl) optN ?_
  refine ⟨_, _, rfl, hG, ?_⟩
  refine thenA_n ?_
  refine AWP.seq ?_
  refine AWP.region (fun _ => ?_)
  refine ARun.move (.inl rfl) rfl rfl rfl (Ev.plain rfl) optN ?_
  refine ARun.makeFunc rfl rfl rfl rfl (.cons (Ev.plain rfl) .nil) .nil optN ?_
  refine ARun.move (.inr rfl) rfl rfl rfl (Ev.plain rfl) optN ?_
  refine ⟨_, _, rfl, hG, ?_⟩
  refine thenA_n ?_
  refine AWP.seq ?_
  refine AWP.region (fun _ => ?_)
  refine ARun.move (.inl rfl) rfl rfl rfl (Ev.plain rfl) optN ?_
  refine ARun.move (.inl rfl) rfl rfl rfl (Ev.plain rfl) optN ?_
  refine ARun.move (.inl rfl) rfl rfl rfl (Ev.plain rfl) optN ?_
  refine ARun.move (.inl rfl) rfl rfl rfl (Ev.plain rfl) optN ?_
  refine ARun.call rfl rfl rfl rfl cf31 (Ev.plain rfl) (.cons (Ev.plain rfl) (.cons (Ev.plain rfl) (.cons (Ev.plain rfl) (.cons (Ev.plain rfl) .nil)))) rfl (fun hg => with_fn 35 [.int .i64 q] (shipG q) l id q hl cf35 (by simp) (fun x hx hq => shipA_fn q x hx hq)) optN ?_
  refine ARun.extract rfl rfl rfl rfl (Ev.plain rfl) rfl optN ?_
  refine ARun.extract rfl rfl rfl rfl (Ev.plain rfl) rfl optN ?_
  refine ARun.move (.inr rfl) rfl rfl rfl (Ev.plain rfl) optN ?_
  refine ARun.move (.inr rfl) rfl rfl rfl (Ev.plain rfl) optN ?_
  refine ⟨_, _, rfl, hG, ?_⟩
  refine thenA_n ?_
  refine AWP.ret ?_
  refine endF.many (.inr rfl) (rs := [.tmp 6, .tmp 7]) rfl (.cons (.tmp rfl) (.cons (.tmp rfl) .nil)) (by simp) ?_ hN
  rfl
def moveP (l : List It) (a b q : Int) : List It × Int :=
  if askedB l q = true ∧ a ≠ b then
    if idx (fun x => x.id == a) l < 0 ∨ idx (fun x => x.id == b) l < 0 then ([], 40)
    else if (withP (outG q) l a q).2 = 0 then withP (inG q) (withP (outG q) l a q).1 b q else ([], (withP (outG q) l a q).2)
  else ([], 2)
theorem with_len (g : It → It × Int) (l : List It) (id q : Int) : (withP g l id q).1.length ≤ l.length := by
  unfold withP; split
  · split
    · split <;> simp
    · simp
  · simp
set_option maxHeartbeats 1000000 in
theorem move_fn (l : List It) (a b q : Int) (hl : l.length ≤ 1000) : FnP Try.prog 16 [.sl (l.map aIt), .int .i64 a, .int .i64 b, .int .i64 q] (.tup [.sl ((moveP l a b q).1.map aIt), .int .i64 (moveP l a b q).2]) := by
  have hwl := with_len (outG q) l a q
  refine FnP.of Try.func16 rfl rfl (by simp) (by simp [AV.cells, aIt]) (fun G hG => ?_)
  have hN : NoH G.length (.tup [.sl ((moveP l a b q).1.map aIt), .int .i64 (moveP l a b q).2]) := (by simp [AV.cells, aIt])
  refine AWP.seq ?_
  refine AWP.region (fun _ => ?_)
  refine ARun.move (.inr rfl) rfl rfl rfl (Ev.plain rfl) optN ?_
  refine ARun.move (.inr rfl) rfl rfl rfl (Ev.plain rfl) optN ?_
  refine ⟨_, _, rfl, hG, ?_⟩
  refine thenA_n ?_
  refine AWP.seq ?_
  refine AWP.block ?_
  refine AWP.seq ?_
  refine AWP.region (fun _ => ?_)
  refine ARun.move (.inl rfl) rfl rfl rfl (Ev.plain rfl) optN ?_
  refine ARun.move (.inl rfl) rfl rfl rfl (Ev.plain rfl) optN ?_
  refine ARun.call rfl rfl rfl rfl cf36 (Ev.plain rfl) (.cons (Ev.plain rfl) (.cons (Ev.plain rfl) .nil)) rfl (fun hg => asked_fn l q) optN ?_
  refine ARun.not rfl rfl rfl rfl (Ev.plain rfl) optN ?_
  refine ARun.move (.inl rfl) rfl rfl rfl (Ev.plain rfl) optN ?_
  refine ARun.move (.inl rfl) rfl rfl rfl (Ev.plain rfl) optS ?_
  refine ARun.move (.inl rfl) rfl rfl rfl (Ev.plain rfl) optS ?_
  refine ARun.cmp rfl rfl rfl rfl (Ev.opt rfl (fun h => h)) (Ev.opt rfl (fun h => h)) rfl optS ?_
  refine ARun.pick rfl rfl rfl rfl (Ev.plain rfl) (Ev.plain rfl) (Ev.opt rfl (by first | exact pkF | exact pkF2 | simp +contextual)) (orB _ _) optN ?_
  refine ARun.move (.inr rfl) rfl rfl rfl (Ev.plain rfl) optN ?_
  refine ⟨_, _, rfl, hG, ?_⟩
  refine thenA_n ?_
  refine AWP.cond rfl (fun h0 => ?_) (fun h0 => ?_)
  · skip
    try simp at h0
    refine AWP.seq ?_
    refine AWP.region (fun _ => ?_)
    refine ARun.move (.inr rfl) rfl rfl rfl (Ev.plain rfl) optN ?_
    refine ARun.move (.inr rfl) rfl rfl rfl (Ev.plain rfl) optN ?_
    refine ⟨_, _, rfl, hG, ?_⟩
    refine thenA_n ?_
    refine AWP.ret ?_
    refine blockA_r ?_
    refine thenA_r ?_
    refine endF.many (.inr rfl) (rs := [.tmp 8, .tmp 9]) rfl (.cons (.tmp rfl) (.cons (.tmp rfl) .nil)) (by simp) ?_ hN
    rw [show moveP l a b q = ([], 2) from by unfold moveP; rw [if_neg (by rintro ⟨x, y⟩; simp_all)]]; rfl
  · skip
    try simp at h0
    refine AWP.seq ?_
    refine AWP.region (fun _ => ?_)
    refine ARun.move (.inl rfl) rfl rfl rfl (Ev.plain rfl) optN ?_
    refine ARun.move (.inl rfl) rfl rfl rfl (Ev.plain rfl) optN ?_
    refine ARun.call rfl rfl rfl rfl cf24 (Ev.plain rfl) (.cons (Ev.plain rfl) (.cons (Ev.plain rfl) .nil)) rfl (fun hg => at_fn l a (by omega)) optN ?_
    refine ARun.cmp rfl rfl rfl rfl (Ev.plain rfl) (Ev.plain rfl) rfl optN ?_
    refine ARun.move (.inl rfl) rfl rfl rfl (Ev.plain rfl) optN ?_
    refine ARun.move (.inl rfl) rfl rfl rfl (Ev.plain rfl) optS ?_
    refine ARun.move (.inl rfl) rfl rfl rfl (Ev.plain rfl) optS ?_
    refine ARun.call rfl rfl rfl rfl cf24 (Ev.plain rfl) (.cons (Ev.opt rfl (fun h => h)) (.cons (Ev.opt rfl (fun h => h)) .nil)) rfl (fun hg => at_fn l b (by omega)) optS ?_
    refine ARun.cmp rfl rfl rfl rfl (Ev.opt rfl (fun h => h)) (Ev.plain rfl) rfl optS ?_
    refine ARun.pick rfl rfl rfl rfl (Ev.plain rfl) (Ev.plain rfl) (Ev.opt rfl (by first | exact pkF | exact pkF2 | simp +contextual)) (orB _ _) optN ?_
    refine ARun.move (.inr rfl) rfl rfl rfl (Ev.plain rfl) optN ?_
    refine ⟨_, _, rfl, hG, ?_⟩
    refine thenA_n ?_
    refine AWP.cond rfl (fun h1 => ?_) (fun h1 => ?_)
    · skip
      try simp at h1
      refine AWP.seq ?_
      refine AWP.region (fun _ => ?_)
      refine ARun.move (.inr rfl) rfl rfl rfl (Ev.plain rfl) optN ?_
      refine ARun.move (.inr rfl) rfl rfl rfl (Ev.plain rfl) optN ?_
      refine ⟨_, _, rfl, hG, ?_⟩
      refine thenA_n ?_
      refine AWP.ret ?_
      refine blockA_r ?_
      refine thenA_r ?_
      refine endF.many (.inr rfl) (rs := [.tmp 8, .tmp 9]) rfl (.cons (.tmp rfl) (.cons (.tmp rfl) .nil)) (by simp) ?_ hN
      rw [show moveP l a b q = ([], 40) from by unfold moveP; rw [if_pos h0, if_pos h1]]; rfl
    · skip
      try simp at h1
      refine AWP.skip ?_
      refine blockA_n ?_
      refine thenA_n ?_
      refine AWP.seq ?_
      refine AWP.region (fun _ => ?_)
      refine ARun.move (.inl rfl) rfl rfl rfl (Ev.plain rfl) optN ?_
      refine ARun.move (.inl rfl) rfl rfl rfl (Ev.plain rfl) optN ?_
      refine ARun.move (.inl rfl) rfl rfl rfl (Ev.plain rfl) optN ?_
      refine ARun.move (.inl rfl) rfl rfl rfl (Ev.plain rfl) optN ?_
      refine ARun.makeFunc rfl rfl rfl rfl (.cons (Ev.plain rfl) .nil) .nil optN ?_
      refine ARun.call rfl rfl rfl rfl cf31 (Ev.plain rfl) (.cons (Ev.plain rfl) (.cons (Ev.plain rfl) (.cons (Ev.plain rfl) (.cons (Ev.plain rfl) .nil)))) rfl (fun hg => with_fn 37 [.int .i64 q] (outG q) l a q hl cf37 (by simp) (fun x hx hq => outA_fn q x hx hq)) optN ?_
      refine ARun.move (.inl rfl) rfl rfl rfl (Ev.plain rfl) optN ?_
      refine ARun.extract rfl rfl rfl rfl (Ev.plain rfl) rfl optN ?_
      refine ARun.extract rfl rfl rfl rfl (Ev.plain rfl) rfl optN ?_
      refine ARun.move (.inr rfl) rfl rfl rfl (Ev.plain rfl) optN ?_
      refine ARun.move (.inr rfl) rfl rfl rfl (Ev.plain rfl) optN ?_
      refine ⟨_, _, rfl, hG, ?_⟩
      refine thenA_n ?_
      refine AWP.seq ?_
      refine AWP.seq ?_
      refine AWP.region (fun _ => ?_)
      refine ARun.move (.inl rfl) rfl rfl rfl (Ev.plain rfl) optN ?_
      refine ARun.cmp rfl rfl rfl rfl (Ev.plain rfl) (Ev.plain rfl) rfl optN ?_
      refine ⟨_, _, rfl, hG, ?_⟩
      refine thenA_n ?_
      refine AWP.cond rfl (fun h2 => ?_) (fun h2 => ?_)
      · skip
        try simp at h2
        refine AWP.seq ?_
        refine AWP.region (fun _ => ?_)
        refine ARun.move (.inl rfl) rfl rfl rfl (Ev.plain rfl) optN ?_
        refine ARun.move (.inr rfl) rfl rfl rfl (Ev.plain rfl) optN ?_
        refine ARun.move (.inr rfl) rfl rfl rfl (Ev.plain rfl) optN ?_
        refine ⟨_, _, rfl, hG, ?_⟩
        refine thenA_n ?_
        refine AWP.ret ?_
        refine thenA_r ?_
        refine endF.many (.inr rfl) (rs := [.tmp 8, .tmp 9]) rfl (.cons (.tmp rfl) (.cons (.tmp rfl) .nil)) (by simp) ?_ hN
        rw [show moveP l a b q = ([], (withP (outG q) l a q).2) from by unfold moveP; rw [if_pos h0, if_neg (by omega), if_neg h2]]; rfl
      · skip
        try simp at h2
        refine AWP.skip ?_
        refine thenA_n ?_
        refine AWP.seq ?_
        refine AWP.region (fun _ => ?_)
        refine ARun.move (.inl rfl) rfl rfl rfl (Ev.plain rfl) optN ?_
        refine ARun.move (.inl rfl) rfl rfl rfl (Ev.plain rfl) optN ?_
        refine ARun.move (.inl rfl) rfl rfl rfl (Ev.plain rfl) optN ?_
        refine ARun.move (.inl rfl) rfl rfl rfl (Ev.plain rfl) optN ?_
        refine ARun.makeFunc rfl rfl rfl rfl (.cons (Ev.plain rfl) .nil) .nil optN ?_
        refine ARun.call rfl rfl rfl rfl cf31 (Ev.plain rfl) (.cons (Ev.plain rfl) (.cons (Ev.plain rfl) (.cons (Ev.plain rfl) (.cons (Ev.plain rfl) .nil)))) rfl (fun hg => with_fn 30 [.int .i64 q] (inG q) (withP (outG q) l a q).1 b q (by omega) cf30 (by simp) (fun x hx hq => inA_fn q x hx hq)) optN ?_
        refine ARun.extract rfl rfl rfl rfl (Ev.plain rfl) rfl optN ?_
        refine ARun.extract rfl rfl rfl rfl (Ev.plain rfl) rfl optN ?_
        refine ARun.move (.inr rfl) rfl rfl rfl (Ev.plain rfl) optN ?_
        refine ARun.move (.inr rfl) rfl rfl rfl (Ev.plain rfl) optN ?_
        refine ⟨_, _, rfl, hG, ?_⟩
        refine thenA_n ?_
        refine AWP.ret ?_
        refine endF.many (.inr rfl) (rs := [.tmp 8, .tmp 9]) rfl (.cons (.tmp rfl) (.cons (.tmp rfl) .nil)) (by simp) ?_ hN
        rw [show moveP l a b q = withP (inG q) (withP (outG q) l a q).1 b q from by unfold moveP; rw [if_pos h0, if_neg (by omega), if_pos h2]]
def insP (l : List It) (x : It) : List It :=
  if idx (fun y => decide (x.id < y.id)) l < 0 then l.take l.length ++ [x] ++ l.drop l.length
  else l.take (idx (fun y => decide (x.id < y.id)) l).toNat ++ [x] ++ l.drop (idx (fun y => decide (x.id < y.id)) l).toNat
def createP (l : List It) (id q : Int) : List It × Int :=
  if okE l = 0 ∧ may ⟨id, q, 0, 0⟩ = true then
    if 0 ≤ idx (fun x => x.id == id) l then ([], 41) else if 20 ≤ l.length then ([], 8) else (insP l ⟨id, q, 0, 0⟩, 0)
  else ([], 2)
set_option maxHeartbeats 1000000 in
theorem crf_fn (x : It) (id : Int) : FnP Try.prog 26 [aIt x, .pe [.int .i64 id]] (.bool (decide (id < x.id))) := by
  refine FnP.of Try.func26 rfl rfl (by simp) (by simp [AV.cells, aIt]) (fun G hG => ?_)
  have hN : NoH G.length (.bool (decide (id < x.id))) := (by simp [AV.cells, aIt])
  refine AWP.seq ?_
  refine AWP.region (fun _ => ?_)
  refine ARun.box (j := 0) hG rfl rfl rfl rfl rfl (Ev.plain rfl) rfl rfl optN ?_
  refine ARun.move (.inr rfl) rfl rfl rfl (Ev.plain rfl) optN ?_
  refine ⟨_, _, rfl, hG, ?_⟩
  refine thenA_n ?_
  refine AWP.seq ?_
  refine AWP.region (fun _ => ?_)
  refine ARun.fieldBox (fo := 0) rfl rfl rfl rfl Try.underlying34 rfl rfl sz3 (by decide) (Ev.plain rfl) ((hG.at _ _).trans rfl) optN ?_
  refine ARun.loadBox rfl rfl rfl rfl Try.underlying3 rfl (Ev.plain rfl) ((hG.at _ _).trans rfl) rfl optN ?_
  first | refine ARun.loadPe rfl rfl rfl rfl Try.underlying3 rfl (Ev.plain rfl) rfl optN ?_ | refine ARun.loadBox rfl rfl rfl rfl Try.underlying3 rfl (Ev.plain rfl) ((hG.at _ _).trans rfl) rfl optN ?_
  refine ARun.cmp rfl rfl rfl rfl (Ev.plain rfl) (Ev.plain rfl) rfl optN ?_
  refine ARun.move (.inr rfl) rfl rfl rfl (Ev.plain rfl) optN ?_
  refine ⟨_, _, rfl, hG, ?_⟩
  refine thenA_n ?_
  refine AWP.ret ?_
  refine endF.one (.inr rfl) rfl (.tmp rfl) ?_ hN
  rfl
set_option maxHeartbeats 1000000 in
theorem create_fn (l : List It) (id q : Int) (hl : l.length ≤ 1000) : FnP Try.prog 7 [.sl (l.map aIt), .int .i64 id, .int .i64 q] (.tup [.sl ((createP l id q).1.map aIt), .int .i64 (createP l id q).2]) := by
  have hr := idx_range (fun y => decide (id < y.id)) l
  have hix := idxOf_idx (fun y => decide (id < y.id)) l
  refine FnP.of Try.func7 rfl rfl (by simp) (by simp [AV.cells, aIt]) (fun G hG => ?_)
  have hN : NoH G.length (.tup [.sl ((createP l id q).1.map aIt), .int .i64 (createP l id q).2]) := (by simp [AV.cells, aIt])
  refine AWP.seq ?_
  refine AWP.region (fun _ => ?_)
  refine ARun.box1 (j := 0) hG rfl rfl rfl rfl rfl (Ev.plain rfl) rfl optN ?_
  refine ARun.move (.inr rfl) rfl rfl rfl (Ev.plain rfl) optN ?_
  refine ARun.move (.inr rfl) rfl rfl rfl (Ev.plain rfl) optN ?_
  refine ⟨_, _, rfl, hG, ?_⟩
  refine thenA_n ?_
  refine AWP.seq ?_
  refine AWP.region (fun _ => ?_)
  refine ARun.loadBox rfl rfl rfl rfl Try.underlying3 rfl (Ev.plain rfl) ((hG.at _ _).trans rfl) rfl optN ?_
  refine ARun.move (.inl rfl) rfl rfl rfl (Ev.plain rfl) optN ?_
  refine ARun.build rfl rfl rfl rfl so34 (.cons (Ev.plain rfl) (.cons (Ev.plain rfl) .nil)) rfl rfl optN ?_
  refine ARun.alloc (j := 1) hG rfl rfl rfl rfl rfl zv34 rfl optN ?_
  refine ARun.storeL hG rfl rfl rfl sz34 (Ev.plain rfl) (Ev.plain rfl) rfl rfl rfl rfl rfl (Nat.le_of_ble_eq_true rfl) rfl rfl ?_
  refine ⟨_, _, rfl, hG, ?_⟩
  refine thenA_n ?_
  refine AWP.seq ?_
  refine AWP.block ?_
  refine AWP.seq ?_
  refine AWP.region (fun _ => ?_)
  refine ARun.move (.inl rfl) rfl rfl rfl (Ev.plain rfl) optN ?_
  refine ARun.call rfl rfl rfl rfl cf20 (Ev.plain rfl) (.cons (Ev.plain rfl) .nil) rfl (fun hg => check_fn l) optN ?_
  refine ARun.cmp rfl rfl rfl rfl (Ev.plain rfl) (Ev.plain rfl) rfl optN ?_
  refine ARun.move (.inl rfl) rfl rfl rfl (Ev.plain rfl) optN ?_
  refine ARun.loadBoxA rfl rfl rfl rfl Try.underlying34 rfl sz34 (Ev.plain rfl) ((hG.at _ _).trans rfl) rfl rfl optS ?_
  refine ARun.call rfl rfl rfl rfl cf23 (Ev.plain rfl) (.cons (Ev.opt rfl (fun h => h)) .nil) rfl (fun hg => may_fn ⟨id, q, 0, 0⟩) optS ?_
  refine ARun.not rfl rfl rfl rfl (Ev.opt rfl (fun h => h)) optS ?_
  refine ARun.pick rfl rfl rfl rfl (Ev.plain rfl) (Ev.plain rfl) (Ev.opt rfl (by first | exact pkF | exact pkF2 | simp +contextual)) (orB _ _) optN ?_
  refine ARun.move (.inr rfl) rfl rfl rfl (Ev.plain rfl) optN ?_
  refine ⟨_, _, rfl, hG, ?_⟩
  refine thenA_n ?_
  refine AWP.cond rfl (fun h0 => ?_) (fun h0 => ?_)
  · skip
    try simp at h0
    refine AWP.seq ?_
    refine AWP.region (fun _ => ?_)
    refine ARun.move (.inr rfl) rfl rfl rfl (Ev.plain rfl) optN ?_
    refine ARun.move (.inr rfl) rfl rfl rfl (Ev.plain rfl) optN ?_
    refine ⟨_, _, rfl, hG, ?_⟩
    refine thenA_n ?_
    refine AWP.ret ?_
    refine blockA_r ?_
    refine thenA_r ?_
    refine endF.many (.inr rfl) (rs := [.tmp 6, .tmp 7]) rfl (.cons (.tmp rfl) (.cons (.tmp rfl) .nil)) (by simp) ?_ hN
    rw [show createP l id q = ([], 2) from by unfold createP; rw [if_neg (by rintro ⟨x, y⟩; simp_all)]]; rfl
  · skip
    try simp at h0
    refine AWP.seq ?_
    refine AWP.region (fun _ => ?_)
    refine ARun.move (.inl rfl) rfl rfl rfl (Ev.plain rfl) optN ?_
    refine ARun.loadBox rfl rfl rfl rfl Try.underlying3 rfl (Ev.plain rfl) ((hG.at _ _).trans rfl) rfl optN ?_
    refine ARun.call rfl rfl rfl rfl cf24 (Ev.plain rfl) (.cons (Ev.plain rfl) (.cons (Ev.plain rfl) .nil)) rfl (fun hg => at_fn l id (by omega)) optN ?_
    refine ARun.cmp rfl rfl rfl rfl (Ev.plain rfl) (Ev.plain rfl) rfl optN ?_
    refine ARun.move (.inr rfl) rfl rfl rfl (Ev.plain rfl) optN ?_
    refine ⟨_, _, rfl, hG, ?_⟩
    refine thenA_n ?_
    refine AWP.cond rfl (fun h1 => ?_) (fun h1 => ?_)
    · skip
      try simp at h1
      refine AWP.seq ?_
      refine AWP.region (fun _ => ?_)
      refine ARun.move (.inr rfl) rfl rfl rfl (Ev.plain rfl) optN ?_
      refine ARun.move (.inr rfl) rfl rfl rfl (Ev.plain rfl) optN ?_
      refine ⟨_, _, rfl, hG, ?_⟩
      refine thenA_n ?_
      refine AWP.ret ?_
      refine blockA_r ?_
      refine thenA_r ?_
      refine endF.many (.inr rfl) (rs := [.tmp 6, .tmp 7]) rfl (.cons (.tmp rfl) (.cons (.tmp rfl) .nil)) (by simp) ?_ hN
      rw [show createP l id q = ([], 41) from by unfold createP; rw [if_pos h0, if_pos h1]]; rfl
    · skip
      try simp at h1
      refine AWP.seq ?_
      refine AWP.region (fun _ => ?_)
      refine ARun.move (.inl rfl) rfl rfl rfl (Ev.plain rfl) optN ?_
      refine ARun.lenSl rfl rfl rfl rfl Try.underlying22 (Ev.plain rfl) optN ?_
      refine ARun.cmp rfl rfl rfl rfl (Ev.plain rfl) (Ev.plain rfl) rfl optN ?_
      refine ARun.move (.inr rfl) rfl rfl rfl (Ev.plain rfl) optN ?_
      refine ⟨_, _, rfl, hG, ?_⟩
      refine thenA_n ?_
      refine AWP.cond rfl (fun h2 => ?_) (fun h2 => ?_)
      · skip
        try simp at h2
        refine AWP.seq ?_
        refine AWP.region (fun _ => ?_)
        refine ARun.move (.inr rfl) rfl rfl rfl (Ev.plain rfl) optN ?_
        refine ARun.move (.inr rfl) rfl rfl rfl (Ev.plain rfl) optN ?_
        refine ⟨_, _, rfl, hG, ?_⟩
        refine thenA_n ?_
        refine AWP.ret ?_
        refine blockA_r ?_
        refine thenA_r ?_
        refine endF.many (.inr rfl) (rs := [.tmp 6, .tmp 7]) rfl (.cons (.tmp rfl) (.cons (.tmp rfl) .nil)) (by simp) ?_ hN
        rw [show createP l id q = ([], 8) from by unfold createP; rw [if_pos h0, if_neg (by omega), if_pos (by omega)]]; rfl
      · skip
        try simp at h2
        refine AWP.skip ?_
        refine blockA_n ?_
        refine thenA_n ?_
        refine AWP.seq ?_
        refine AWP.frzBox 4 hG rfl rfl rfl ?_
        refine AWP.region (fun _ => ?_)
        refine ARun.move (.inl rfl) rfl rfl rfl (Ev.plain rfl) optN ?_
        refine ARun.makeFunc rfl rfl rfl rfl .nil (.cons (Ev.plain rfl) .nil) optN ?_
        refine ARun.call rfl rfl rfl rfl cf25 (Ev.plain rfl) (.cons (Ev.plain rfl) (.cons (Ev.plain rfl) .nil)) rfl (fun hg => indexIt 26 [] [.pe [.int .i64 id]] (fun y => decide (id < y.id)) l (by omega) cf26 (by simp) (fun x _ => crf_fn x id)) optN ?_
        refine ARun.move (.inr rfl) rfl rfl rfl (Ev.plain rfl) optN ?_
        refine ⟨_, _, rfl, hG, ?_⟩
        refine thenA_n ?_
        refine AWP.seq ?_
        refine AWP.seq ?_
        refine AWP.region (fun _ => ?_)
        refine ARun.move (.inl rfl) rfl rfl rfl (Ev.plain rfl) optN ?_
        refine ARun.cmp rfl rfl rfl rfl (Ev.plain rfl) (Ev.plain rfl) rfl optN ?_
        refine ⟨_, _, rfl, hG, ?_⟩
        refine thenA_n ?_
        refine AWP.cond rfl (fun h3 => ?_) (fun h3 => ?_)
        · skip
          rw [idxOf_idx] at h3
          simp at h3
          refine AWP.region (fun _ => ?_)
          refine ARun.move (.inl rfl) rfl rfl rfl (Ev.plain rfl) optN ?_
          refine ARun.lenSl rfl rfl rfl rfl Try.underlying22 (Ev.plain rfl) optN ?_
          refine ARun.move (.inr rfl) rfl rfl rfl (Ev.plain rfl) optN ?_
          refine ⟨_, _, rfl, hG, ?_⟩
          refine thenA_n ?_
          refine AWP.seq ?_
          refine AWP.frzBox 8 hG rfl rfl rfl ?_
          refine AWP.draw mixed (by kernel_rfl) (fun _ => ?_)
          refine ARun.move (.inl rfl) rfl rfl rfl (Ev.plain rfl) optN ?_
          refine ARun.callNew (j := 2) hG rfl rfl rfl rfl rfl cf28 (Ev.plain rfl) (.cons (Ev.plain rfl) .nil) rfl (clone_new l (by omega)) optN ?_
          refine ARun.move (.inl rfl) rfl rfl rfl (Ev.plain rfl) optN ?_
          refine ARun.loadPeA rfl rfl rfl rfl Try.underlying34 rfl sz34 (Ev.plain rfl) rfl optN ?_
          refine ARun.buildLit rfl rfl rfl rfl Try.underlying22 sz34 zv34 (by decide) (.cons (Ev.plain rfl) .nil) rfl rfl rfl rfl rfl rfl optN ?_
          refine ARun.callSet (j := 2) hG rfl rfl rfl rfl cf27 (Ev.plain rfl) (.cons (Ev.plain rfl) (.cons (Ev.plain rfl) (.cons (Ev.plain rfl) .nil))) rfl (insertIt_lit (l.map aIt) (aIt ⟨id, q, 0, 0⟩) l.length (by simp) (by simp; omega) (by simp [aIt, AV.cells, AV.one]) rfl rfl rfl (i := G.length + 2) (by simp) ((hG.at _ _).trans rfl)) rfl optN ?_
          refine ARun.move (.inr rfl) rfl rfl rfl (Ev.plain rfl) optN ?_
          refine ARun.move (.inr rfl) rfl rfl rfl (Ev.plain rfl) optN ?_
          refine ⟨by kernel_rfl, _, _, rfl, hG, ?_⟩
          refine thenA_n ?_
          refine AWP.frzOwn 6 hG rfl rfl (by decide) (by simp [maxLen]; omega) rfl ?_
          refine AWP.ret ?_
          refine endF.many (.inr rfl) (rs := [.tmp 6, .tmp 7]) rfl (.cons (.tmp rfl) (.cons (.tmp rfl) .nil)) (by simp) ?_ hN
          rw [show createP l id q = (insP l ⟨id, q, 0, 0⟩, 0) from by unfold createP; rw [if_pos h0, if_neg (by omega), if_neg (by omega)], show (insP l ⟨id, q, 0, 0⟩).map aIt = (l.map aIt).take l.length ++ [aIt ⟨id, q, 0, 0⟩] ++ (l.map aIt).drop l.length from by unfold insP; rw [if_pos (by simpa using h3)]; exact ins_map _ _ _]; rfl
        · skip
          rw [idxOf_idx] at h3
          simp at h3
          refine AWP.skip ?_
          refine thenA_n ?_
          refine AWP.seq ?_
          refine AWP.frzBox 8 hG rfl rfl rfl ?_
          refine AWP.draw mixed (by kernel_rfl) (fun _ => ?_)
          refine ARun.move (.inl rfl) rfl rfl rfl (Ev.plain rfl) optN ?_
          refine ARun.callNew (j := 2) hG rfl rfl rfl rfl rfl cf28 (Ev.plain rfl) (.cons (Ev.plain rfl) .nil) rfl (clone_new l (by omega)) optN ?_
          refine ARun.move (.inl rfl) rfl rfl rfl (Ev.plain rfl) optN ?_
          refine ARun.loadPeA rfl rfl rfl rfl Try.underlying34 rfl sz34 (Ev.plain rfl) rfl optN ?_
          refine ARun.buildLit rfl rfl rfl rfl Try.underlying22 sz34 zv34 (by decide) (.cons (Ev.plain rfl) .nil) rfl rfl rfl rfl rfl rfl optN ?_
          refine ARun.callSet (j := 2) hG rfl rfl rfl rfl cf27 (Ev.plain rfl) (.cons (Ev.plain rfl) (.cons (Ev.plain rfl) (.cons (Ev.plain rfl) .nil))) rfl (insertIt_lit (l.map aIt) (aIt ⟨id, q, 0, 0⟩) (idx (fun y => decide (id < y.id)) l).toNat (by simp; omega) (by simp; omega) (by simp [aIt, AV.cells, AV.one]) rfl rfl rfl (i := G.length + 2) (by omega) ((hG.at _ _).trans rfl)) rfl optN ?_
          refine ARun.move (.inr rfl) rfl rfl rfl (Ev.plain rfl) optN ?_
          refine ARun.move (.inr rfl) rfl rfl rfl (Ev.plain rfl) optN ?_
          refine ⟨by kernel_rfl, _, _, rfl, hG, ?_⟩
          refine thenA_n ?_
          refine AWP.frzOwn 6 hG rfl rfl (by decide) (by simp [maxLen]; omega) rfl ?_
          refine AWP.ret ?_
          refine endF.many (.inr rfl) (rs := [.tmp 6, .tmp 7]) rfl (.cons (.tmp rfl) (.cons (.tmp rfl) .nil)) (by simp) ?_ hN
          rw [show createP l id q = (insP l ⟨id, q, 0, 0⟩, 0) from by unfold createP; rw [if_pos h0, if_neg (by omega), if_neg (by omega)], show (insP l ⟨id, q, 0, 0⟩).map aIt = (l.map aIt).take (idx (fun y => decide (id < y.id)) l).toNat ++ [aIt ⟨id, q, 0, 0⟩] ++ (l.map aIt).drop (idx (fun y => decide (id < y.id)) l).toNat from by unfold insP; rw [if_neg (by simpa using h3)]; exact ins_map _ _ _]; rfl
end Go.Proofs.Ytfeeohbapnolcaa
