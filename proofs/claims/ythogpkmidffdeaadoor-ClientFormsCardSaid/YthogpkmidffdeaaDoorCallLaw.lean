/- Calls and replies: the laws, plainly. -/
import Derived.Test.YthogpkmidffdeaaDoorCallPlain
import Derived.Test.YthogpkmidffdeaaDoorTextLaw
namespace Go.Proofs.YthogpkmidffdeaaDoor
set_option linter.unusedVariables false
set_option linter.unusedSimpArgs false
open NumP
set_option linter.unusedVariables false
set_option linter.unusedSimpArgs false
theorem back_numM {n most : Int} (hm : n ≤ most) (h b : List UInt8) (s : ByteArray) (hs : bl s = h ++ ((putN n).1 ++ b)) (hn : 0 ≤ n) (h1 : n ≤ 9223372036854775807) (p : ByteArray) :
    rdNum ⟨s, h.length, p, 0⟩ most = (⟨s, (h.length : Int) + ((putN n).1.length : Int), p, 0⟩, n) := by
  have hg := get_put h b n hn h1
  unfold rdNum numE
  dsimp only
  rw [hs, hg]
  dsimp only
  rw [if_neg (by omega), if_neg (by omega)]
  simp [RdS.moved]
theorem unrow_more {l : List UInt8} {p top top' to : Int} {xs : List Int} (h : unrowN l p top = (xs, to, 0)) (ht : top ≤ top') : unrowN l p top' = (xs, to, 0) := by
  unfold unrowN at h ⊢
  split at h
  · rename_i h1; simp at h; exact absurd h.2.2 h1
  · rename_i h1
    rw [if_neg h1]
    split at h
    · simp at h
    · rename_i h2
      rw [if_neg (by omega)]; exact h
theorem back_rowM {most : Int} (h b : List UInt8) (s : ByteArray) (l : List Int) (hs : bl s = h ++ ((rowN l).1 ++ b)) (hn : nneg l = true) (h1 : ∀ x, x ∈ l → x ≤ 9223372036854775807) (hl : l.length ≤ 1000) (hm : (l.length : Int) ≤ most) (p : ByteArray) :
    rdRow ⟨s, h.length, p, 0⟩ most = (⟨s, (h.length : Int) + ((rowN l).1.length : Int), p, 0⟩, l) := by
  have hg := unrow_more (unrow_row h b l hn h1 hl) hm
  unfold rdRow
  dsimp only
  rw [hs, hg]
  simp [RdS.moved]
theorem rowBytes_app (a b : List Int) : rowBytes (a ++ b) = rowBytes a ++ rowBytes b := by simp [rowBytes]
theorem rowBytes_cut (l : List Int) (k : Nat) (h : k < l.length) : rowBytes l = rowBytes (l.take k) ++ ((putN (l.getD k 0)).1 ++ rowBytes (l.drop (k + 1))) := by
  have : l = l.take k ++ (l.getD k 0 :: l.drop (k + 1)) := by
    rw [List.getD, List.getElem?_eq_getElem h]; simp
  conv => lhs; rw [this, rowBytes_app]
  rfl
theorem rowBytes_succ (l : List Int) (k : Nat) (h : k < l.length) : rowBytes (l.take (k + 1)) = rowBytes (l.take k) ++ (putN (l.getD k 0)).1 := by
  rw [List.take_succ_eq_append_getElem h, rowBytes_app, List.getD, List.getElem?_eq_getElem h]; simp [rowBytes]
/-- a call's bytes -/
def encC (c : Cl) : List UInt8 := rowBytes (headC c) ++ (rowN (flatL c.lines)).1
theorem putC_ok {c : Cl} (h : checkP c = 0) : putC c = bs (encC c) := by
  rw [putC, if_pos h, layC_ok h]; rfl
theorem six_read {c : Cl} (h : checkP c = 0) {s : ByteArray} {b : List UInt8} (hs : bl s = encC c ++ b) : ∀ k, k ≤ 6 → sixR s k = ⟨s, ((rowBytes ((headC c).take k)).length : Int), ⟨#[]⟩, 0⟩ ∧ ∀ j, j < k → sixN s j = (headC c).getD j 0 := by
  intro k
  induction k with
  | zero => intro _; exact ⟨rfl, fun j hj => by omega⟩
  | succ k ih =>
    intro hk
    obtain ⟨h1, h2⟩ := ih (by omega)
    have hk6 : k < (headC c).length := by show k < 6; omega
    have hx := head_pos h _ (show (headC c).getD k 0 ∈ headC c by rw [List.getD, List.getElem?_eq_getElem hk6]; exact List.getElem_mem hk6)
    have hr : rdNum (sixR s k) 2000000 = (⟨s, ((rowBytes ((headC c).take k)).length : Int) + ((putN ((headC c).getD k 0)).1.length : Int), ⟨#[]⟩, 0⟩, (headC c).getD k 0) := by
      rw [h1]
      refine back_numM (by omega) _ (rowBytes ((headC c).drop (k + 1)) ++ (rowN (flatL c.lines)).1 ++ b) s ?_ hx.1 (by omega) _
      rw [hs, encC, rowBytes_cut (headC c) k hk6]; simp only [List.append_assoc]
    refine ⟨?_, fun j hj => ?_⟩
    · show (rdNum (sixR s k) 2000000).1 = _
      rw [hr, rowBytes_succ _ _ hk6]; simp
    · by_cases e : j = k
      · subst e; show (rdNum (sixR s j) 2000000).2 = _; rw [hr]
      · exact h2 j (by omega)
theorem call_read {c : Cl} (h : checkP c = 0) {s : ByteArray} {b : List UInt8} (hs : bl s = encC c ++ b) : sixL s = headC c ∧ rdRow (sixR s 6) 10 = (⟨s, ((encC c).length : Int), ⟨#[]⟩, 0⟩, flatL c.lines) := by
  obtain ⟨h1, h2⟩ := six_read h hs 6 (Nat.le_refl _)
  refine ⟨?_, ?_⟩
  · unfold sixL; rw [h2 0 (by decide), h2 1 (by decide), h2 2 (by decide), h2 3 (by decide), h2 4 (by decide), h2 5 (by decide)]; rfl
  · rw [h1]
    have hb := (check_ok h).2.2.2.2.2.2
    have := back_rowM (most := 10) (rowBytes (headC c)) b s (flatL c.lines) (by rw [hs, encC, List.append_assoc]) (nneg_of fun x hx => (hb.2 x hx).1) (fun x hx => by have := hb.2 x hx; omega) (by rw [flatL_len]; omega) (by rw [flatL_len]; omega) ⟨#[]⟩
    rw [show (headC c).take 6 = headC c from rfl, this]
    simp [encC]
theorem mk_back (c : Cl) : mkCall (headC c) (flatL c.lines) = c := by
  unfold mkCall; rw [pairsL_flat]; rfl
theorem call_back {c : Cl} (h : checkP c = 0) : takeE (putC c) = 0 ∧ takeC (putC c) = c := by
  have hs : bl (putC c) = encC c ++ [] := by rw [putC_ok h, bl_bs]; simp
  obtain ⟨h1, h2⟩ := call_read h hs
  have hsz : (putC c).size = (encC c).length := by rw [← bl_len, hs]; simp
  have he : rdEnd (rdRow (sixR (putC c) 6) 10).1 = (rdRow (sixR (putC c) 6) 10).1 := by
    unfold rdEnd; rw [if_neg]; rw [h2]; dsimp only; omega
  have hE : (rdCall (putC c)).1.e = 0 := by show (rdEnd _).e = 0; rw [he, h2]
  have hR : (rdCall (putC c)).2.2 = flatL c.lines := by show (rdRow _ _).2 = _; rw [h2]
  have hL : (rdCall (putC c)).2.1 = headC c := h1
  have hT : takeE (putC c) = 0 := by
    unfold takeE
    rw [if_neg (by omega), hR, hL, flatL_len, if_neg (by omega), mk_back, h]
  exact ⟨hT, by rw [takeC, if_pos hT, hL, hR, mk_back]⟩
theorem six_s (s : ByteArray) : ∀ k, (sixR s k).s = s
  | 0 => rfl
  | k + 1 => by show (rdNum (sixR s k) 2000000).1.s = s; rw [rdNum_s]; exact six_s s k
theorem six_upto (s : ByteArray) (h : s.size ≤ 1000000) : ∀ k, k ≤ 6 → Upto (sixR s k) (wrNums WrS.new ((sixL s).take k)) := by
  intro k
  induction k with
  | zero => intro _; exact upto_new s
  | succ k ih =>
    intro hk
    have h1 := first_num (sixR_ok h k) _ 2000000 (ih (by omega))
    have hk6 : k < (sixL s).length := by show k < 6; omega
    have h2 : (rdNum (sixR s k) 2000000).2 = (sixL s).getD k default := by
      show sixN s k = _
      have : k = 0 ∨ k = 1 ∨ k = 2 ∨ k = 3 ∨ k = 4 ∨ k = 5 := by omega
      rcases this with rfl | rfl | rfl | rfl | rfl | rfl <;> rfl
    rw [wrNums_succ _ _ _ hk6, ← h2]; exact h1
theorem takeE_zero {s : ByteArray} (h : takeE s = 0) : (rdCall s).1.e = 0 ∧ (rdCall s).2.2.length % 2 = 0 ∧ checkP (mkCall (rdCall s).2.1 (rdCall s).2.2) = 0 ∧ takeC s = mkCall (rdCall s).2.1 (rdCall s).2.2 := by
  have hc : takeC s = mkCall (rdCall s).2.1 (rdCall s).2.2 := if_pos h
  unfold takeE at h
  split at h
  · rename_i h1; exact absurd h h1
  · rename_i h1
    split at h
    · cases h
    · rename_i h2; exact ⟨by omega, by omega, h, hc⟩
theorem call_only {s : ByteArray} (hs : s.size ≤ 1000000) (h : takeE s = 0) : checkP (takeC s) = 0 ∧ putC (takeC s) = s := by
  obtain ⟨h1, h2, h3, h4⟩ := takeE_zero h
  rw [h4]
  refine ⟨h3, ?_⟩
  rw [putC, if_pos h3]
  have hU := first_row (sixR_ok hs 6) _ 10 (six_upto s hs 6 (Nat.le_refl _))
  have hw := (upto_end (rdRow_ok (sixR_ok hs 6) 10) hU h1).1
  rw [rdRow_s, six_s] at hw
  have hf : flatL (mkCall (rdCall s).2.1 (rdCall s).2.2).lines = (rdRow (sixR s 6) 10).2 := flat_pairs ((rdRow (sixR s 6) 10).2.length / 2) _ (by have : (rdRow (sixR s 6) 10).2.length % 2 = 0 := h2; show (rdRow (sixR s 6) 10).2.length = _; omega)
  unfold layC
  rw [hf]
  exact hw
theorem call_nonempty {s : ByteArray} (h : takeE s = 0) : s.size ≠ 0 := by
  intro h0
  have : s = ⟨#[]⟩ := bl_inj (by have := bl_len s; rw [h0] at this; rw [List.length_eq_zero_iff.1 this]; rfl)
  subst this
  exact absurd h (by decide +kernel)
theorem call_cut {s : ByteArray} (hs : s.size ≤ 1000000) (h : takeE s = 0) : takeE (s.extract 0 (s.size - 1)) ≠ 0 := by
  intro h2
  have hne := call_nonempty h
  have htz : (s.extract 0 (s.size - 1)).size = s.size - 1 := by rw [ByteArray.size_extract]; omega
  obtain ⟨c1, c2⟩ := call_only (by omega) h2
  have hb : bl s = encC (takeC (s.extract 0 (s.size - 1))) ++ (bl s).drop (s.size - 1) := by
    have : encC (takeC (s.extract 0 (s.size - 1))) = (bl s).take (s.size - 1) := by
      have e := congrArg bl c2
      rw [putC_ok c1, bl_bs, bl_extract] at e
      rw [e]; simp
    rw [this, List.take_append_drop]
  obtain ⟨_, r2⟩ := call_read c1 hb
  have hl : (encC (takeC (s.extract 0 (s.size - 1)))).length = s.size - 1 := by
    have e := congrArg bl c2
    rw [putC_ok c1, bl_bs] at e
    rw [e, bl_len, htz]
  have h1 := (takeE_zero h).1
  have : (rdEnd (rdRow (sixR s 6) 10).1).e = 0 := h1
  rw [r2] at this
  unfold rdEnd at this
  rw [if_pos (by dsimp only; rw [hl]; exact ⟨rfl, by omega⟩)] at this
  simp [RdS.moved] at this
/-! ### the errors -/
theorem new_code (p : ByteArray) (e : Int) : (Er.new p e).code = e := by
  unfold Er.new
  split
  · rename_i h; rw [h]; rfl
  · rename_i h
    show (match (some e : Option Int) with | some c => if c = 0 then 2 else c | Option.none => 2) = e
    simp [h]
theorem errOf_code (op p : ByteArray) (e : Int) : (errOf op p e).code = e := by
  unfold errOf
  split
  · rename_i h; rw [h]; rfl
  · rename_i h
    show (match (some e : Option Int) with | some c => if c = 0 then 2 else c | Option.none => 2) = e
    simp [h]
theorem wrap_code (p : ByteArray) {e : Er} : (Er.wrap p e).code = e.code := by
  cases e <;> rfl
theorem new_depth (p : ByteArray) (e : Int) : (Er.new p e).depth ≤ 2 := by
  unfold Er.new; split
  · exact Nat.zero_le _
  · show 0 + 1 ≤ 2; omega
theorem errOf_depth (op p : ByteArray) (e : Int) : (errOf op p e).depth ≤ 2 := by
  unfold errOf; split
  · exact Nat.zero_le _
  · exact Nat.le_refl 2
theorem wrap_depth (p : ByteArray) (e : Er) : (Er.wrap p e).depth ≤ e.depth + 1 := by
  unfold Er.wrap; split
  · exact Nat.zero_le _
  · exact Nat.le_refl _
theorem takeErr_code (s : ByteArray) : (takeErr s).code = takeE s := by
  unfold takeErr takeE
  split
  · rw [wrap_code, errOf_code]
  · split
    · rw [new_code]
    · rw [wrap_code, new_code]
theorem takeErr_depth (s : ByteArray) : (takeErr s).depth ≤ 100000 := by
  unfold takeErr
  split
  · have := wrap_depth tTake (errOf tRead (rdCall s).1.p (rdCall s).1.e); have := errOf_depth tRead (rdCall s).1.p (rdCall s).1.e; omega
  · split
    · have := new_depth tTake 5; omega
    · have := wrap_depth tTake (Er.new tCall (checkP (mkCall (rdCall s).2.1 (rdCall s).2.2))); have := new_depth tCall (checkP (mkCall (rdCall s).2.1 (rdCall s).2.2)); omega
theorem wrap_at (p : ByteArray) (e : Er) : e.code = 0 ∨ p ∈ (Er.wrap p e).ops := by
  unfold Er.wrap
  split
  · rename_i h; left; cases e <;> first | rfl | cases h
  · right; simp [Er.ops]
theorem takeErr_at (s : ByteArray) : takeE s = 0 ∨ tTake ∈ (takeErr s).ops := by
  unfold takeErr takeE
  split
  · have := wrap_at tTake (errOf tRead (rdCall s).1.p (rdCall s).1.e); rwa [errOf_code] at this
  · split
    · right; simp [Er.new, Er.ops]
    · have := wrap_at tTake (Er.new tCall (checkP (mkCall (rdCall s).2.1 (rdCall s).2.2))); rwa [new_code] at this
theorem takeRErr_code (s : ByteArray) : (takeRErr s).code = (rdReply s).1.e := by unfold takeRErr; rw [wrap_code, errOf_code]
theorem takeRErr_at (s : ByteArray) : (rdReply s).1.e = 0 ∨ tTake ∈ (takeRErr s).ops := by
  have := wrap_at tTake (errOf tRead (rdReply s).1.p (rdReply s).1.e); rwa [errOf_code] at this
theorem takeRErr_depth (s : ByteArray) : (takeRErr s).depth ≤ 100000 := by
  have := wrap_depth tTake (errOf tRead (rdReply s).1.p (rdReply s).1.e); have := errOf_depth tRead (rdReply s).1.p (rdReply s).1.e; unfold takeRErr; omega
/-! ### replies -/
theorem repE_zero {r : Rp} (h : repE r = 0) : (0 ≤ r.code ∧ r.code ≤ 255) ∧ r.nums.length ≤ 20 ∧ nneg r.nums = true := by
  unfold repE at h
  split at h
  · cases h
  · rename_i h0
    exact ⟨by omega, by omega, by cases hh : nneg r.nums <;> simp_all⟩
theorem rep_back {r : Rp} (h : repE r = 0) (hf : ∀ x, x ∈ r.nums → x ≤ 9223372036854775807) : (rdReply (putR r)).1.e = 0 ∧ takeR (putR r) = r := by
  obtain ⟨h1, h2, h3⟩ := repE_zero h
  have hs : bl (putR r) = (putN r.code).1 ++ (rowN r.nums).1 := by rw [putR, if_pos h, layR_ok h]; exact bl_bs _
  have hsz : (putR r).size = ((putN r.code).1 ++ (rowN r.nums).1).length := by rw [← bl_len, hs]
  have e1 : rdNum (RdS.new (putR r)) 255 = (⟨putR r, ((putN r.code).1.length : Int), ⟨#[]⟩, 0⟩, r.code) := by
    have := back_numM (most := 255) h1.2 [] (rowN r.nums).1 (putR r) (by rw [hs]; rfl) h1.1 (by omega) ⟨#[]⟩
    simpa [RdS.new] using this
  have e2 : rdRow ⟨putR r, ((putN r.code).1.length : Int), ⟨#[]⟩, 0⟩ 20 = (⟨putR r, ((putN r.code).1.length : Int) + ((rowN r.nums).1.length : Int), ⟨#[]⟩, 0⟩, r.nums) :=
    back_rowM (most := 20) (putN r.code).1 [] (putR r) r.nums (by rw [hs]; simp) h3 hf (by omega) (by omega) _
  have e3 : rdReply (putR r) = (⟨putR r, ((putN r.code).1.length : Int) + ((rowN r.nums).1.length : Int), ⟨#[]⟩, 0⟩, r.code, r.nums) := by
    unfold rdReply
    simp only [e1, e2]
    unfold rdEnd
    rw [if_neg (by dsimp only; rw [hsz, List.length_append]; omega)]
  refine ⟨by rw [e3], ?_⟩
  unfold takeR
  rw [e3]; rfl
theorem row_top (r : RdS) (most : Int) (h : 0 ≤ most) : ((rdRow r most).2.length : Int) ≤ most := by
  unfold rdRow
  split
  · exact h
  · unfold unrowN
    dsimp only
    split
    · exact h
    · split
      · exact h
      · rename_i h1 h2
        have := unrowF_len (bl r.s) (getN (bl r.s) r.at_).1.toNat (getN (bl r.s) r.at_).2.1 []
        simp only [List.length_nil] at this
        omega
theorem num_top {r : RdS} (hr : r.ok) (most : Int) (h : 0 ≤ most) : 0 ≤ (rdNum r most).2 ∧ (rdNum r most).2 ≤ most := by
  have hb := getN_bd (bl r.s) r.at_ (by rw [bl_len]; exact hr.2.2)
  unfold rdNum
  split
  · exact ⟨Int.le_refl 0, h⟩
  · dsimp only
    split
    · exact ⟨Int.le_refl 0, h⟩
    · rename_i h2
      have h3 : numE r most = 0 := by omega
      unfold numE at h3
      split at h3
      · cases h3
      · rename_i h4
        have hg : getN (bl r.s) r.at_ = ((getN (bl r.s) r.at_).1, (getN (bl r.s) r.at_).2.1, 0) := by rw [← h3]
        have := get_least _ _ _ _ hg
        omega
theorem reply_s (s : ByteArray) : (rdRow (rdNum (RdS.new s) 255).1 20).1.s = s := by rw [rdRow_s, rdNum_s]; rfl
theorem rep_only {s : ByteArray} (hs : s.size ≤ 1000000) (h : (rdReply s).1.e = 0) : repE (takeR s) = 0 ∧ putR (takeR s) = s := by
  have hT : takeR s = ⟨(rdNum (RdS.new s) 255).2, (rdRow (rdNum (RdS.new s) 255).1 20).2⟩ := if_neg (by omega)
  have hn := num_top (rd_new_ok hs) 255 (by decide)
  have hl := row_top (rdNum (RdS.new s) 255).1 20 (by decide)
  have hU := first_row (rdNum_ok (rd_new_ok hs) 255) _ 20 (first_num (rd_new_ok hs) _ 255 (upto_new s))
  obtain ⟨hw, hwe⟩ := upto_end (rdRow_ok (rdNum_ok (rd_new_ok hs) 255) 20) hU h
  rw [reply_s] at hw
  have hlay : layR (takeR s) = wrRow (wrNum WrS.new (rdNum (RdS.new s) 255).2) (rdRow (rdNum (RdS.new s) 255).1 20).2 := by rw [hT]; rfl
  have hnn : nneg (rdRow (rdNum (RdS.new s) 255).1 20).2 = true := by
    cases hq : nneg (rdRow (rdNum (RdS.new s) 255).1 20).2 with
    | true => rfl
    | false =>
      exfalso
      unfold wrRow wrPut at hwe
      split at hwe
      · rename_i h1; exact h1 hwe
      · rw [if_pos (by unfold rowN; rw [if_neg (by simp [hq])]; decide)] at hwe
        unfold rowN at hwe
        rw [if_neg (by simp [hq])] at hwe
        cases hwe
  have he : repE (takeR s) = 0 := by
    rw [hT, repE, if_neg]
    dsimp only
    intro hq
    rcases hq with hq | hq | hq | hq
    · omega
    · omega
    · omega
    · rw [hnn] at hq; cases hq
  refine ⟨he, ?_⟩
  rw [putR, if_pos he, hlay, hw]
theorem takeR_len (s : ByteArray) : (takeR s).nums.length ≤ 1000 := by
  unfold takeR
  split
  · exact Nat.zero_le _
  · exact rdRow_len _ _
theorem takeC_len (s : ByteArray) : (takeC s).lines.length ≤ 1000 := by
  unfold takeC
  split
  · have h1 := rdRow_len (sixR s 6) 10
    have : ∀ l : List Int, (pairsL l).length ≤ l.length := by
      intro l
      induction l using pairsL.induct with
      | case1 a b r ih => simp [pairsL]; omega
      | case2 t h => rw [show pairsL t = [] from by unfold pairsL; split <;> simp_all]; exact Nat.zero_le _
    exact Nat.le_trans (this _) h1
  · exact Nat.zero_le _
theorem putC_len {c : Cl} (h : checkP c = 0) : (putC c).size ≤ 1000 := by
  rw [putC_ok h, bs_size]
  have h1 := rowN_len (flatL c.lines)
  have h2 := (check_ok h).2.2.2.2.2.2.1
  rw [flatL_len] at h1
  have a1 := putN_len c.client; have a2 := putN_len c.seq; have a3 := putN_len c.kind; have a4 := putN_len c.item; have a5 := putN_len c.to_; have a6 := putN_len c.qty
  simp [encC, headC, rowBytes]
  omega
theorem putR_len (r : Rp) : (putR r).size ≤ 1000 := by
  unfold putR
  split
  · rename_i h
    rw [layR_ok h]
    have h1 := rowN_len r.nums
    have h2 := (repE_zero h).2.1
    have a1 := putN_len r.code
    show (bs _).size ≤ _
    rw [bs_size]; simp; omega
  · exact Nat.zero_le _
end Go.Proofs.YthogpkmidffdeaaDoor
