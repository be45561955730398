/- ClientForms, by the abstract machine. -/
import Derived.Test.YthogpkmidffdeaaDoorAmT39
import Derived.Test.YthogpkmidffdeaaDoorClientLaw2
namespace Go.Proofs.YthogpkmidffdeaaDoor
set_option linter.unusedVariables false
set_option linter.unusedSimpArgs false
open Go.RowKit
open NumP
set_option maxRecDepth 100000
theorem forms_of {l : List Co} {o : Co} {b : Bool} (h : (!fewO l || !fewO [o] || b) = false) : (l.length ≤ 120 ∧ ∀ x, x ∈ l → x.payload.size ≤ 1000000) ∧ o.payload.size ≤ 1000000 ∧ b = false := by
  simp only [Bool.or_eq_false_iff] at h
  have h2 := few_of (l := l) (o := o) (by rw [h.1.1, h.1.2]; rfl)
  exact ⟨h2.1, h2.2, h.2⟩
theorem forms_g {l : List Co} {o : Co} (h : ((!fewO l || !fewO [o]) == false) = true) : l.length ≤ 1000 ∧ ∀ x, x ∈ l → x.payload.size ≤ 1000000 := by
  have h2 := few_of (l := l) (o := o) (by simpa using h)
  exact ⟨by omega, h2.1.2⟩
theorem beginL_pay {l : List Co} {n : Int} {p : ByteArray} (hp : ∀ x, x ∈ l → x.payload.size ≤ 1000000) (h : p.size ≤ 1000000) : ∀ x, x ∈ beginL l n p → x.payload.size ≤ 1000000 := by
  intro x hx
  unfold beginL at hx
  split at hx
  · rcases List.mem_append.1 hx with hx | hx
    · exact hp x hx
    · rw [List.mem_singleton.1 hx]; exact h
  · cases hx
theorem endL_pay {l : List Co} {n c s : Int} {r : ByteArray} (hp : ∀ x, x ∈ l → x.payload.size ≤ 1000000) : ∀ x, x ∈ endL l n c s r → x.payload.size ≤ 1000000 := by
  intro x hx
  unfold endL at hx
  split at hx
  · obtain ⟨y, hy, rfl⟩ := List.mem_map.1 hx
    rw [(endO_same n c s r y).2.2.2]; exact hp y hy
  · cases hx
theorem begin_facts {l : List Co} {n : Int} {p : ByteArray} (h : beginE l n p = 0) : beginL l n p = l ++ [newO n p] ∧ checkO (beginL l n p) = 0 ∧ (beginL l n p).take l.length = l ∧ ((beginL l n p).getD l.length default).end_ = 0 := by
  have e : beginL l n p = l ++ [newO n p] := by unfold beginL; rw [if_pos h]
  rw [e]
  exact ⟨rfl, begin_keeps h, by simp, by rw [app_at]; rfl⟩
theorem co_ext {a b : Co} (h : a.client = b.client ∧ a.seq = b.seq ∧ a.payload = b.payload ∧ a.start = b.start ∧ a.end_ = b.end_ ∧ a.reply = b.reply) : a = b := by
  obtain ⟨h1, h2, h3, h4, h5, h6⟩ := h
  cases a; cases b; simp_all
def cntF (m k : Nat) : Int := if m < k then 1 else 0
theorem cnt_b (m k : Nat) : 0 ≤ cntF m k ∧ cntF m k ≤ 1 := by unfold cntF; split <;> omega
theorem cnt_hit (m : Nat) : cntF m (m + 1) = cntF m m + 1 := by unfold cntF; rw [if_pos (by omega), if_neg (by omega)]; rfl
theorem cnt_no {m k : Nat} (h : k ≠ m) : cntF m (k + 1) = cntF m k := by
  unfold cntF
  by_cases e : m < k
  · rw [if_pos (by omega), if_pos e]
  · rw [if_neg (by omega), if_neg e]
theorem cnt_all {m k : Nat} (h : m < k) : cntF m k = 1 := if_pos h
theorem ofL_cut (l : List Co) (k : Nat) (hl : l.length ≤ 1000) : FnP Tryd.prog 8 [.sl (((l.map aCo).take k).drop 0)] (.sl ((l.take k).map aCo)) := by
  have hh := ofL_fn (l.take k) (by rw [List.length_take]; omega)
  rw [List.map_take] at hh ⊢; exact hh
set_option maxHeartbeats 1000000 in
theorem forms_fn (l : List Co) (o : Co) : FnP Tryd.prog 4 [.sl (l.map aCo), aCo o] (.bool true) := by
  have hop := openP_le l
  refine FnP.of Tryd.func4 rfl rfl (by simp) (by simp [AV.cells, aIn, aOut, aLn, aCl, aRp, aCo]) (fun G hG => ?_)
  have hN : NoH G.length (.bool true) := (by simp [AV.cells, aIn, aOut, aLn, aCl, aRp, aCo])
  refine AWP.seq ?_
  refine AWP.region (fun _ => ?_)
  refine ARun.boxPe rfl rfl rfl rfl (Ev.plain rfl) rfl rfl optN ?_
  refine ARun.move (.inr rfl) rfl rfl rfl (Ev.plain rfl) optN ?_
  refine ⟨_, _, rfl, hG, ?_⟩
  refine thenA_n ?_
  refine AWP.seq ?_
  refine AWP.seq ?_
  refine AWP.region (fun _ => ?_)
  refine ARun.move (.inl rfl) rfl rfl rfl (Ev.plain rfl) optN ?_
  refine ARun.call rfl rfl rfl rfl cf6 (Ev.plain rfl) (.cons (Ev.plain rfl) .nil) rfl (fun hg => fewO_fn l) optN ?_
  refine ARun.not rfl rfl rfl rfl (Ev.plain rfl) optN ?_
  refine ARun.move (.inl rfl) rfl rfl rfl (Ev.plain rfl) optN ?_
  refine ARun.loadPeA rfl rfl rfl rfl Tryd.underlying24 rfl sz24 (Ev.plain rfl) rfl optS ?_
  refine ARun.buildSl rfl rfl rfl rfl Tryd.underlying22 sz24 zv24 rfl (by decide) (.cons (Ev.opt rfl (fun h => h)) .nil) rfl rfl rfl rfl (by decide) rfl rfl optS ?_
  refine ARun.call rfl rfl rfl rfl cf6 (Ev.plain rfl) (.cons (Ev.opt rfl (fun h => h)) .nil) rfl (fun hg => fewO_fn [o]) optS ?_
  refine ARun.not rfl rfl rfl rfl (Ev.opt rfl (fun h => h)) optS ?_
  refine ARun.pick rfl rfl rfl rfl (Ev.plain rfl) (Ev.plain rfl) (Ev.opt rfl (by first | exact pkF | exact pkF2 | simp +contextual)) (orB _ _) optN ?_
  refine ARun.move (.inl rfl) rfl rfl rfl (Ev.plain rfl) optN ?_
  refine ARun.move (.inl rfl) rfl rfl rfl (Ev.plain rfl) optS ?_
  refine ARun.call rfl rfl rfl rfl cf14 (Ev.plain rfl) (.cons (Ev.opt rfl (fun h => h)) .nil) rfl (fun hg => checkO_fn l (forms_g hg).1 (forms_g hg).2) optS ?_
  refine ARun.cmp rfl rfl rfl rfl (Ev.opt rfl (fun h => h)) (Ev.plain rfl) rfl optS ?_
  refine ARun.pick rfl rfl rfl rfl (Ev.plain rfl) (Ev.plain rfl) (Ev.opt rfl (by first | exact pkF | exact pkF2 | simp +contextual)) (orB _ _) optN ?_
  refine ⟨_, _, rfl, hG, ?_⟩
  refine thenA_n ?_
  refine AWP.cond rfl (fun h0 => ?_) (fun h0 => ?_)
  · skip
    skip
    refine AWP.seq ?_
    refine AWP.region (fun _ => ?_)
    refine ARun.call rfl rfl rfl rfl cf7 (Ev.plain rfl) .nil rfl (fun hg => awake_fn) optN ?_
    refine ARun.move (.inr rfl) rfl rfl rfl (Ev.plain rfl) optN ?_
    refine ⟨_, _, rfl, hG, ?_⟩
    refine thenA_n ?_
    refine AWP.ret ?_
    refine thenA_r ?_
    refine endF.one (.inr rfl) rfl (.tmp rfl) ?_ hN
    rfl
  · skip
    obtain ⟨⟨hl0, hp⟩, ho, hck0⟩ := forms_of h0
    have hck : checkO l = 0 := by simpa using hck0
    have hl : l.length ≤ 1000 := by omega
    have hBL : (beginL l o.start o.payload).length ≤ 1000 := by have := beginL_len l o.start o.payload; omega
    have hBP := beginL_pay (n := o.start) hp ho
    have hEL : (endL l o.end_ o.client o.seq o.reply).length ≤ 1000 := by have := endL_len l o.end_ o.client o.seq o.reply; omega
    have hEP := endL_pay (n := o.end_) (c := o.client) (s := o.seq) (r := o.reply) hp
    have hbl : (beginE l o.start o.payload) = 0 → (beginL l o.start o.payload).length = l.length + 1 := fun e => by rw [(begin_facts e).1]; simp
    refine AWP.skip ?_
    refine thenA_n ?_
    refine AWP.seq ?_
    refine AWP.region (fun _ => ?_)
    refine ARun.move (.inl rfl) rfl rfl rfl (Ev.plain rfl) optN ?_
    refine ARun.call rfl rfl rfl rfl cf8 (Ev.plain rfl) (.cons (Ev.plain rfl) .nil) rfl (fun hg => ofL_fn l hl) optN ?_
    refine ARun.move (.inr rfl) rfl rfl rfl (Ev.plain rfl) optN ?_
    refine ⟨_, _, rfl, hG, ?_⟩
    refine thenA_n ?_
    refine AWP.seq ?_
    refine AWP.region (fun _ => ?_)
    refine ARun.move (.inl rfl) rfl rfl rfl (Ev.plain rfl) optN ?_
    refine ARun.fieldPe rfl rfl rfl rfl Tryd.underlying24 rfl rfl sz3 (by decide) (Ev.plain rfl) rfl optN ?_
    refine ARun.loadPe rfl rfl rfl rfl Tryd.underlying3 rfl (Ev.plain rfl) rfl optN ?_
    refine ARun.fieldPe rfl rfl rfl rfl Tryd.underlying24 rfl rfl sz9 (by decide) (Ev.plain rfl) rfl optN ?_
    refine ARun.loadPe rfl rfl rfl rfl Tryd.underlying9 rfl (Ev.plain rfl) rfl optN ?_
    refine ARun.call rfl rfl rfl rfl cf9 (Ev.plain rfl) (.cons (Ev.plain rfl) (.cons (Ev.plain rfl) (.cons (Ev.plain rfl) .nil))) rfl (fun hg => begin_fn l o.start o.payload hl hp ho) optN ?_
    refine ARun.move (.inl rfl) rfl rfl rfl (Ev.plain rfl) optN ?_
    refine ARun.extract rfl rfl rfl rfl (Ev.plain rfl) rfl optN ?_
    refine ARun.extract rfl rfl rfl rfl (Ev.plain rfl) rfl optN ?_
    refine ARun.move (.inr rfl) rfl rfl rfl (Ev.plain rfl) optN ?_
    refine ARun.move (.inr rfl) rfl rfl rfl (Ev.plain rfl) optN ?_
    refine ⟨_, _, rfl, hG, ?_⟩
    refine thenA_n ?_
    refine AWP.seq ?_
    refine AWP.region (fun _ => ?_)
    refine ARun.move (.inl rfl) rfl rfl rfl (Ev.plain rfl) optN ?_
    refine ARun.fieldPe rfl rfl rfl rfl Tryd.underlying24 rfl rfl sz3 (by decide) (Ev.plain rfl) rfl optN ?_
    refine ARun.loadPe rfl rfl rfl rfl Tryd.underlying3 rfl (Ev.plain rfl) rfl optN ?_
    refine ARun.fieldPe rfl rfl rfl rfl Tryd.underlying24 rfl rfl sz3 (by decide) (Ev.plain rfl) rfl optN ?_
    refine ARun.loadPe rfl rfl rfl rfl Tryd.underlying3 rfl (Ev.plain rfl) rfl optN ?_
    refine ARun.fieldPe rfl rfl rfl rfl Tryd.underlying24 rfl rfl sz3 (by decide) (Ev.plain rfl) rfl optN ?_
    refine ARun.loadPe rfl rfl rfl rfl Tryd.underlying3 rfl (Ev.plain rfl) rfl optN ?_
    refine ARun.fieldPe rfl rfl rfl rfl Tryd.underlying24 rfl rfl sz9 (by decide) (Ev.plain rfl) rfl optN ?_
    refine ARun.loadPe rfl rfl rfl rfl Tryd.underlying9 rfl (Ev.plain rfl) rfl optN ?_
    refine ARun.call rfl rfl rfl rfl cf11 (Ev.plain rfl) (.cons (Ev.plain rfl) (.cons (Ev.plain rfl) (.cons (Ev.plain rfl) (.cons (Ev.plain rfl) (.cons (Ev.plain rfl) .nil))))) rfl (fun hg => end_fn2 l o.end_ o.client o.seq o.reply hl hp) optN ?_
    refine ARun.move (.inl rfl) rfl rfl rfl (Ev.plain rfl) optN ?_
    refine ARun.extract rfl rfl rfl rfl (Ev.plain rfl) rfl optN ?_
    refine ARun.extract rfl rfl rfl rfl (Ev.plain rfl) rfl optN ?_
    refine ARun.move (.inr rfl) rfl rfl rfl (Ev.plain rfl) optN ?_
    refine ARun.move (.inr rfl) rfl rfl rfl (Ev.plain rfl) optN ?_
    refine ⟨_, _, rfl, hG, ?_⟩
    refine thenA_n ?_
    refine AWP.seq ?_
    refine AWP.seq ?_
    refine AWP.region (fun _ => ?_)
    refine ARun.move (.inl rfl) rfl rfl rfl (Ev.plain rfl) optN ?_
    refine ARun.call rfl rfl rfl rfl cf8 (Ev.plain rfl) (.cons (Ev.plain rfl) .nil) rfl (fun hg => ofL_fn l hl) optN ?_
    refine ARun.move (.inl rfl) rfl rfl rfl (Ev.plain rfl) optN ?_
    refine ARun.call rfl rfl rfl rfl cf13 (Ev.plain rfl) (.cons (Ev.plain rfl) (.cons (Ev.plain rfl) .nil)) rfl (fun hg => sameCo_fn l l (by omega)) optN ?_
    refine ARun.not rfl rfl rfl rfl (Ev.plain rfl) optN ?_
    refine ⟨_, _, rfl, hG, ?_⟩
    refine thenA_n ?_
    refine AWP.cond rfl (fun h1 => ?_) (fun h1 => ?_)
    · skip
      simp at h1
    · skip
      skip
      refine AWP.skip ?_
      refine thenA_n ?_
      refine AWP.seq ?_
      refine AWP.seq ?_
      refine AWP.region (fun _ => ?_)
      refine ARun.move (.inl rfl) rfl rfl rfl (Ev.plain rfl) optN ?_
      refine ARun.cmp rfl rfl rfl rfl (Ev.plain rfl) (Ev.plain rfl) rfl optN ?_
      refine ARun.move (.inl rfl) rfl rfl rfl (Ev.plain rfl) optN ?_
      refine ARun.move (.inl rfl) rfl rfl rfl (Ev.plain rfl) optS ?_
      refine ARun.call rfl rfl rfl rfl cf14 (Ev.plain rfl) (.cons (Ev.opt rfl (fun h => h)) .nil) rfl (fun hg => checkO_fn (beginL l o.start o.payload) hBL hBP) optS ?_
      refine ARun.cmp rfl rfl rfl rfl (Ev.opt rfl (fun h => h)) (Ev.plain rfl) rfl optS ?_
      refine ARun.move (.inl rfl) rfl rfl rfl (Ev.opt rfl (fun h => h)) optS ?_
      refine ARun.move (.inl rfl) rfl rfl rfl (Ev.plain rfl) optS ?_
      refine ARun.lenSl rfl rfl rfl rfl Tryd.underlying22 (Ev.opt rfl (fun h => h)) optS ?_
      refine ARun.move (.inl rfl) rfl rfl rfl (Ev.plain rfl) optS ?_
      refine ARun.lenSl rfl rfl rfl rfl Tryd.underlying22 (Ev.opt rfl (fun h => h)) optS ?_
      first | refine ARun.arith rfl rfl rfl rfl (Ev.opt rfl (fun h => h)) (Ev.plain rfl) rfl (fun hg => i64w (by (try simp at hg); first | omega | (simp only [List.length_map]; done) | (simp only [List.length_map]; omega))) optS ?_ | refine ARun.arith rfl rfl rfl rfl (Ev.opt rfl (fun h => h)) (Ev.plain rfl) rfl (fun _ => rfl) optS ?_
      refine ARun.cmp rfl rfl rfl rfl (Ev.opt rfl (fun h => h)) (Ev.opt rfl (fun h => h)) rfl optS ?_
      refine ARun.pick rfl rfl rfl rfl (Ev.opt rfl (fun h => h)) (Ev.plain rfl) (Ev.opt rfl (by first | exact pkF | exact pkF2 | simp +contextual)) (orB _ _) optS ?_
      refine ARun.move (.inl rfl) rfl rfl rfl (Ev.opt rfl (fun h => h)) optS ?_
      refine ARun.move (.inl rfl) rfl rfl rfl (Ev.plain rfl) optS ?_
      refine ARun.move (.inl rfl) rfl rfl rfl (Ev.plain rfl) optS ?_
      refine ARun.lenSl rfl rfl rfl rfl Tryd.underlying22 (Ev.opt rfl (fun h => h)) optS ?_
      refine ARun.cutSl (a := 0) (b := l.length) rfl rfl rfl rfl Tryd.underlying22 sz24 (Ev.opt rfl (fun h => h)) (fun _ => (by intro x hx; obtain ⟨y, _, rfl⟩ := List.mem_map.1 hx; rfl)) (fun _ => rfl) ⟨_, _, (Ev.opt rfl (fun h => h)), fun hg => (by (try simp at hg); first | omega | (simp only [List.length_map]; done) | (simp only [List.length_map]; omega))⟩ (fun hg => (by (try simp at hg); (try simp only [List.length_map]); omega)) rfl optS ?_
      refine ARun.call rfl rfl rfl rfl cf8 (Ev.plain rfl) (.cons (Ev.opt rfl (fun h => h)) .nil) rfl (fun hg => ofL_cut (beginL l o.start o.payload) l.length hBL) optS ?_
      refine ARun.move (.inl rfl) rfl rfl rfl (Ev.plain rfl) optS ?_
      refine ARun.call rfl rfl rfl rfl cf13 (Ev.plain rfl) (.cons (Ev.opt rfl (fun h => h)) (.cons (Ev.opt rfl (fun h => h)) .nil)) rfl (fun hg => sameCo_fn ((beginL l o.start o.payload).take l.length) l (by rw [List.length_take]; omega)) optS ?_
      refine ARun.not rfl rfl rfl rfl (Ev.opt rfl (fun h => h)) optS ?_
      refine ARun.pick rfl rfl rfl rfl (Ev.opt rfl (fun h => h)) (Ev.plain rfl) (Ev.opt rfl (by first | exact pkF | exact pkF2 | simp +contextual)) (orB _ _) optS ?_
      refine ARun.move (.inl rfl) rfl rfl rfl (Ev.opt rfl (fun h => h)) optS ?_
      refine ARun.move (.inl rfl) rfl rfl rfl (Ev.plain rfl) optS ?_
      refine ARun.move (.inl rfl) rfl rfl rfl (Ev.plain rfl) optS ?_
      refine ARun.lenSl rfl rfl rfl rfl Tryd.underlying22 (Ev.opt rfl (fun h => h)) optS ?_
      first | refine ARun.indexSl rfl rfl rfl rfl Tryd.underlying22 sz24 (Ev.opt rfl (fun h => h)) (Ev.opt rfl (fun h => h)) (fun _ => rfl) (fun hg => getMap _ _ _ (by (try simp at hg); first | omega | (simp only [List.length_map]; done) | (simp only [List.length_map]; omega))) rfl rfl optS ?_ | refine ARun.indexSl rfl rfl rfl rfl Tryd.underlying22 sz24 (Ev.opt rfl (fun h => h)) (Ev.opt rfl (fun h => h)) (fun hg => ofNonneg (by (try simp at hg); first | omega | (simp only [List.length_map]; done) | (simp only [List.length_map]; omega))) (fun hg => getMap _ _ _ (by (try simp at hg); first | omega | (simp only [List.length_map]; done) | (simp only [List.length_map]; omega))) rfl rfl optS ?_
      refine ARun.fieldPe rfl rfl rfl rfl Tryd.underlying24 rfl rfl sz3 (by decide) (Ev.opt rfl (fun h => h)) rfl optS ?_
      refine ARun.loadPe rfl rfl rfl rfl Tryd.underlying3 rfl (Ev.opt rfl (fun h => h)) rfl optS ?_
      refine ARun.cmp rfl rfl rfl rfl (Ev.opt rfl (fun h => h)) (Ev.plain rfl) rfl optS ?_
      refine ARun.pick rfl rfl rfl rfl (Ev.opt rfl (fun h => h)) (Ev.plain rfl) (Ev.opt rfl (by first | exact pkF | exact pkF2 | simp +contextual)) (orB _ _) optS ?_
      refine ARun.pick rfl rfl rfl rfl (Ev.plain rfl) (Ev.opt rfl (by first | exact pkT | exact pkT2 | simp +contextual)) (Ev.plain rfl) (andB _ _) optN ?_
      refine ⟨_, _, rfl, hG, ?_⟩
      refine thenA_n ?_
      refine AWP.cond rfl (fun h2 => ?_) (fun h2 => ?_)
      · skip
        by_cases e : (beginE l o.start o.payload) = 0
        · obtain ⟨_, q2, q3, q4⟩ := begin_facts e
          have q1 := hbl e
          simp [-List.getD_eq_getElem?_getD, e, q1, q2, q3, q4] at h2
        · simp [e] at h2
      · skip
        skip
        refine AWP.skip ?_
        refine thenA_n ?_
        refine AWP.seq ?_
        refine AWP.seq ?_
        refine AWP.region (fun _ => ?_)
        refine ARun.move (.inl rfl) rfl rfl rfl (Ev.plain rfl) optN ?_
        refine ARun.cmp rfl rfl rfl rfl (Ev.plain rfl) (Ev.plain rfl) rfl optN ?_
        refine ⟨_, _, rfl, hG, ?_⟩
        refine thenA_n ?_
        refine AWP.cond rfl (fun h3 => ?_) (fun h3 => ?_)
        · skip
          simp at h3
          refine AWP.seq ?_
          refine AWP.region (fun _ => ?_)
          refine ARun.move (.inl rfl) rfl rfl rfl (Ev.plain rfl) optN ?_
          refine ARun.lenSl rfl rfl rfl rfl Tryd.underlying22 (Ev.plain rfl) optN ?_
          refine ARun.cmp rfl rfl rfl rfl (Ev.plain rfl) (Ev.plain rfl) rfl optN ?_
          refine ARun.move (.inl rfl) rfl rfl rfl (Ev.plain rfl) optN ?_
          refine ARun.call rfl rfl rfl rfl cf7 (Ev.plain rfl) .nil rfl (fun hg => awake_fn) optS ?_
          refine ARun.pick rfl rfl rfl rfl (Ev.plain rfl) (Ev.opt rfl (by first | exact pkT | exact pkT2 | simp +contextual)) (Ev.plain rfl) (andB _ _) optN ?_
          refine ARun.move (.inr rfl) rfl rfl rfl (Ev.plain rfl) optN ?_
          refine ⟨_, _, rfl, hG, ?_⟩
          refine thenA_n ?_
          refine AWP.ret ?_
          refine thenA_r ?_
          refine endF.one (.inr rfl) rfl (.tmp rfl) ?_ hN
          rw [show (endL l o.end_ o.client o.seq o.reply) = [] from by unfold endL; rw [if_neg h3]]; rfl
        · skip
          have he : (endE l o.end_ o.client o.seq) = 0 := by simpa using h3
          obtain ⟨m, hm0, hm⟩ := end_at he o.reply
          have hEq : (endL l o.end_ o.client o.seq o.reply) = l.map (endO o.end_ o.client o.seq o.reply) := by unfold endL; rw [if_pos he]
          have heln : (endL l o.end_ o.client o.seq o.reply).length = l.length := by rw [hEq, List.length_map]
          have hm2 : ∀ k, k < l.length → ((endL l o.end_ o.client o.seq o.reply).getD k default = l.getD k default ↔ k ≠ m) := fun k hk => by rw [hEq, map_getD _ hk]; exact hm k hk
          have hk1 := end_keeps he o.reply
          have hk2 := open_less he o.reply
          rw [← hEq] at hk1 hk2
          refine AWP.skip ?_
          refine thenA_n ?_
          refine AWP.seq ?_
          refine AWP.region (fun _ => ?_)
          refine ARun.move (.inr rfl) rfl rfl rfl (Ev.plain rfl) optN ?_
          refine ⟨_, _, rfl, hG, ?_⟩
          refine thenA_n ?_
          refine AWP.seq ?_
          refine AWP.seq ?_
          refine AWP.region (fun _ => ?_)
          refine ARun.move (.inr rfl) rfl rfl rfl (Ev.plain rfl) optN ?_
          refine ⟨_, _, rfl, hG, ?_⟩
          refine thenA_n ?_
          refine AWP.block ?_
          refine AWP.rounds (fun k => k ≤ l.length) (fun k => [(0, .sl (l.map aCo)), (8, .sl ((endL l o.end_ o.client o.seq o.reply).map aCo)), (10, .int .i64 (cntF m k)), (11, .int .i64 (k : Int))]) (fun k => []) (fun k => l.length - k) 0 0 (Nat.zero_le _) (by repeat (first | exact .nil | refine .cons rfl ?_)) rfl (fun _ => rfl) (fun _ => ⟨by simp [AV.cells, aCo], by simp⟩) (fun k hI => ?_)
          have hcb := cnt_b m k
          refine AWP.seq ?_
          refine AWP.seq ?_
          refine AWP.region (fun _ => ?_)
          refine ARun.move (.inl rfl) rfl rfl rfl (Ev.plain rfl) optN ?_
          refine ARun.move (.inl rfl) rfl rfl rfl (Ev.plain rfl) optN ?_
          refine ARun.lenSl rfl rfl rfl rfl Tryd.underlying22 (Ev.plain rfl) optN ?_
          refine ARun.cmp rfl rfl rfl rfl (Ev.plain rfl) (Ev.plain rfl) rfl optN ?_
          refine ARun.move (.inl rfl) rfl rfl rfl (Ev.plain rfl) optN ?_
          refine ARun.move (.inl rfl) rfl rfl rfl (Ev.plain rfl) optS ?_
          refine ARun.move (.inl rfl) rfl rfl rfl (Ev.plain rfl) optS ?_
          refine ARun.lenSl rfl rfl rfl rfl Tryd.underlying22 (Ev.opt rfl (fun h => h)) optS ?_
          refine ARun.cmp rfl rfl rfl rfl (Ev.opt rfl (fun h => h)) (Ev.opt rfl (fun h => h)) rfl optS ?_
          refine ARun.pick rfl rfl rfl rfl (Ev.plain rfl) (Ev.opt rfl (by first | exact pkT | exact pkT2 | simp +contextual)) (Ev.plain rfl) (andB _ _) optN ?_
          refine ⟨_, _, rfl, hG, ?_⟩
          refine thenA_n ?_
          refine AWP.cond rfl (fun h4 => ?_) (fun h4 => ?_)
          · skip
            simp at h4
            have hk4 : k < l.length := by omega
            refine AWP.skip ?_
            refine thenA_n ?_
            refine AWP.seq ?_
            refine AWP.block ?_
            refine AWP.seq ?_
            refine AWP.draw mixed (by kernel_rfl) (fun _ => ?_)
            refine ARun.move (.inl rfl) rfl rfl rfl (Ev.plain rfl) optN ?_
            refine ARun.move (.inl rfl) rfl rfl rfl (Ev.plain rfl) optN ?_
            first | refine ARun.indexSl rfl rfl rfl rfl Tryd.underlying22 sz24 (Ev.plain rfl) (Ev.plain rfl) (fun _ => rfl) (fun hg => getMap _ _ _ (by (try simp at hg); first | omega | (simp only [List.length_map]; done) | (simp only [List.length_map]; omega))) rfl rfl optN ?_ | refine ARun.indexSl rfl rfl rfl rfl Tryd.underlying22 sz24 (Ev.plain rfl) (Ev.plain rfl) (fun hg => ofNonneg (by (try simp at hg); first | omega | (simp only [List.length_map]; done) | (simp only [List.length_map]; omega))) (fun hg => getMap _ _ _ (by (try simp at hg); first | omega | (simp only [List.length_map]; done) | (simp only [List.length_map]; omega))) rfl rfl optN ?_
            refine ARun.loadPeA rfl rfl rfl rfl Tryd.underlying24 rfl sz24 (Ev.plain rfl) rfl optN ?_
            refine ARun.move (.inl rfl) rfl rfl rfl (Ev.plain rfl) optN ?_
            refine ARun.move (.inl rfl) rfl rfl rfl (Ev.plain rfl) optN ?_
            first | refine ARun.indexSl rfl rfl rfl rfl Tryd.underlying22 sz24 (Ev.plain rfl) (Ev.plain rfl) (fun _ => rfl) (fun hg => getMap _ _ _ (by (try simp at hg); first | omega | (simp only [List.length_map]; done) | (simp only [List.length_map]; omega))) rfl rfl optN ?_ | refine ARun.indexSl rfl rfl rfl rfl Tryd.underlying22 sz24 (Ev.plain rfl) (Ev.plain rfl) (fun hg => ofNonneg (by (try simp at hg); first | omega | (simp only [List.length_map]; done) | (simp only [List.length_map]; omega))) (fun hg => getMap _ _ _ (by (try simp at hg); first | omega | (simp only [List.length_map]; done) | (simp only [List.length_map]; omega))) rfl rfl optN ?_
            refine ARun.loadPeA rfl rfl rfl rfl Tryd.underlying24 rfl sz24 (Ev.plain rfl) rfl optN ?_
            refine ARun.eqAgg rfl rfl rfl rfl eq24 (Ev.plain rfl) (Ev.plain rfl) rfl (.inr ⟨rfl, rfl⟩) optN ?_
            refine ⟨by kernel_rfl, _, _, rfl, hG, ?_⟩
            refine thenA_n ?_
            refine AWP.cond rfl (fun h5 => ?_) (fun h5 => ?_)
            · skip
              have h5k : k = m := by
                have := hm2 k hk4
                by_cases e : k = m
                · exact e
                · simp [-List.getD_eq_getElem?_getD, this.2 e] at h5
              subst h5k
              refine AWP.region (fun _ => ?_)
              refine ARun.move (.inl rfl) rfl rfl rfl (Ev.plain rfl) optN ?_
              first | refine ARun.arith rfl rfl rfl rfl (Ev.plain rfl) (Ev.plain rfl) rfl (fun hg => i64w (by (try simp at hg); first | omega | (simp only [List.length_map]; done) | (simp only [List.length_map]; omega))) optN ?_ | refine ARun.arith rfl rfl rfl rfl (Ev.plain rfl) (Ev.plain rfl) rfl (fun _ => rfl) optN ?_
              refine ARun.move (.inr rfl) rfl rfl rfl (Ev.plain rfl) optN ?_
              refine ⟨_, _, rfl, hG, ?_⟩
              refine blockA_n ?_
              refine thenA_n ?_
              refine AWP.region (fun _ => ?_)
              refine ARun.move (.inl rfl) rfl rfl rfl (Ev.plain rfl) optN ?_
              first | refine ARun.arith rfl rfl rfl rfl (Ev.plain rfl) (Ev.plain rfl) rfl (fun hg => i64w (by (try simp at hg); first | omega | (simp only [List.length_map]; done) | (simp only [List.length_map]; omega))) optN ?_ | refine ARun.arith rfl rfl rfl rfl (Ev.plain rfl) (Ev.plain rfl) rfl (fun _ => rfl) optN ?_
              refine ARun.move (.inr rfl) rfl rfl rfl (Ev.plain rfl) optN ?_
              refine ⟨_, _, rfl, hG, ?_⟩
              refine thenA_n ⟨rfl, k + 1, _, ?_, ?_, rfl, ?_⟩
              · omega
              · rw [cnt_hit]
                repeat (first | exact .nil | refine .cons rfl ?_)
              · omega
            · skip
              have h5k : k ≠ m := (hm2 k hk4).1 (co_ext (by simpa [-List.getD_eq_getElem?_getD] using h5))
              refine AWP.skip ?_
              refine blockA_n ?_
              refine thenA_n ?_
              refine AWP.region (fun _ => ?_)
              refine ARun.move (.inl rfl) rfl rfl rfl (Ev.plain rfl) optN ?_
              first | refine ARun.arith rfl rfl rfl rfl (Ev.plain rfl) (Ev.plain rfl) rfl (fun hg => i64w (by (try simp at hg); first | omega | (simp only [List.length_map]; done) | (simp only [List.length_map]; omega))) optN ?_ | refine ARun.arith rfl rfl rfl rfl (Ev.plain rfl) (Ev.plain rfl) rfl (fun _ => rfl) optN ?_
              refine ARun.move (.inr rfl) rfl rfl rfl (Ev.plain rfl) optN ?_
              refine ⟨_, _, rfl, hG, ?_⟩
              refine thenA_n ⟨rfl, k + 1, _, ?_, ?_, rfl, ?_⟩
              · omega
              · rw [cnt_no h5k]
                repeat (first | exact .nil | refine .cons rfl ?_)
              · omega
          · skip
            simp at h4
            obtain rfl : k = l.length := by omega
            have hc1 := cnt_all hm0
            refine AWP.exit ?_
            refine thenA_x ?_
            refine thenA_x ?_
            refine blockA_h ?_
            refine thenA_n ?_
            refine AWP.seq ?_
            refine AWP.region (fun _ => ?_)
            refine ARun.move (.inl rfl) rfl rfl rfl (Ev.plain rfl) optN ?_
            refine ARun.call rfl rfl rfl rfl cf14 (Ev.plain rfl) (.cons (Ev.plain rfl) .nil) rfl (fun hg => checkO_fn (endL l o.end_ o.client o.seq o.reply) hEL hEP) optN ?_
            refine ARun.cmp rfl rfl rfl rfl (Ev.plain rfl) (Ev.plain rfl) rfl optN ?_
            refine ARun.move (.inl rfl) rfl rfl rfl (Ev.plain rfl) optN ?_
            refine ARun.move (.inl rfl) rfl rfl rfl (Ev.plain rfl) optS ?_
            refine ARun.lenSl rfl rfl rfl rfl Tryd.underlying22 (Ev.opt rfl (fun h => h)) optS ?_
            refine ARun.move (.inl rfl) rfl rfl rfl (Ev.plain rfl) optS ?_
            refine ARun.lenSl rfl rfl rfl rfl Tryd.underlying22 (Ev.opt rfl (fun h => h)) optS ?_
            refine ARun.cmp rfl rfl rfl rfl (Ev.opt rfl (fun h => h)) (Ev.opt rfl (fun h => h)) rfl optS ?_
            refine ARun.pick rfl rfl rfl rfl (Ev.plain rfl) (Ev.opt rfl (by first | exact pkT | exact pkT2 | simp +contextual)) (Ev.plain rfl) (andB _ _) optN ?_
            refine ARun.move (.inl rfl) rfl rfl rfl (Ev.plain rfl) optN ?_
            refine ARun.move (.inl rfl) rfl rfl rfl (Ev.plain rfl) optS ?_
            refine ARun.cmp rfl rfl rfl rfl (Ev.opt rfl (fun h => h)) (Ev.plain rfl) rfl optS ?_
            refine ARun.pick rfl rfl rfl rfl (Ev.plain rfl) (Ev.opt rfl (by first | exact pkT | exact pkT2 | simp +contextual)) (Ev.plain rfl) (andB _ _) optN ?_
            refine ARun.move (.inl rfl) rfl rfl rfl (Ev.plain rfl) optN ?_
            refine ARun.move (.inl rfl) rfl rfl rfl (Ev.plain rfl) optS ?_
            refine ARun.call rfl rfl rfl rfl cf18 (Ev.plain rfl) (.cons (Ev.opt rfl (fun h => h)) .nil) rfl (fun hg => open_fn (endL l o.end_ o.client o.seq o.reply) hEL) optS ?_
            refine ARun.lenSl rfl rfl rfl rfl Tryd.underlying22 (Ev.opt rfl (fun h => h)) optS ?_
            refine ARun.move (.inl rfl) rfl rfl rfl (Ev.plain rfl) optS ?_
            refine ARun.call rfl rfl rfl rfl cf18 (Ev.plain rfl) (.cons (Ev.opt rfl (fun h => h)) .nil) rfl (fun hg => open_fn l hl) optS ?_
            refine ARun.lenSl rfl rfl rfl rfl Tryd.underlying22 (Ev.opt rfl (fun h => h)) optS ?_
            first | refine ARun.arith rfl rfl rfl rfl (Ev.opt rfl (fun h => h)) (Ev.plain rfl) rfl (fun hg => i64w (by (try simp at hg); first | omega | (simp only [List.length_map]; done) | (simp only [List.length_map]; omega))) optS ?_ | refine ARun.arith rfl rfl rfl rfl (Ev.opt rfl (fun h => h)) (Ev.plain rfl) rfl (fun _ => rfl) optS ?_
            refine ARun.cmp rfl rfl rfl rfl (Ev.opt rfl (fun h => h)) (Ev.opt rfl (fun h => h)) rfl optS ?_
            refine ARun.pick rfl rfl rfl rfl (Ev.plain rfl) (Ev.opt rfl (by first | exact pkT | exact pkT2 | simp +contextual)) (Ev.plain rfl) (andB _ _) optN ?_
            refine ARun.move (.inl rfl) rfl rfl rfl (Ev.plain rfl) optN ?_
            refine ARun.call rfl rfl rfl rfl cf7 (Ev.plain rfl) .nil rfl (fun hg => awake_fn) optS ?_
            refine ARun.pick rfl rfl rfl rfl (Ev.plain rfl) (Ev.opt rfl (by first | exact pkT | exact pkT2 | simp +contextual)) (Ev.plain rfl) (andB _ _) optN ?_
            refine ARun.move (.inr rfl) rfl rfl rfl (Ev.plain rfl) optN ?_
            refine ⟨_, _, rfl, hG, ?_⟩
            refine thenA_n ?_
            refine AWP.ret ?_
            refine endF.one (.inr rfl) rfl (.tmp rfl) ?_ hN
            refine congrArg AV.bool ?_
            simp [hk1, heln, hc1]
            omega
end Go.Proofs.YthogpkmidffdeaaDoor
