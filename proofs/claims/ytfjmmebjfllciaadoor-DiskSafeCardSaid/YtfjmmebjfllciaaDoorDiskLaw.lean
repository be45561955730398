/- A disk against the reference's: plain laws. -/
import Derived.Test.YtfjmmebjfllciaaDoorAmDiskR
namespace Go.Proofs.YtfjmmebjfllciaaDoor
set_option linter.unusedVariables false
set_option linter.unusedSimpArgs false
theorem dba_ext {a b : ByteArray} (h : a.data.toList = b.data.toList) : a = b := ByteArray.ext (Array.toList_inj.1 h)
theorem dbl_ext (s : ByteArray) (i j : Nat) : (s.extract i j).data.toList = (s.data.toList.drop i).take (j - i) := by
  rw [ByteArray.data_extract, Array.toList_extract, List.extract_eq_take_drop]
theorem dbl_app (s t : ByteArray) : (s ++ t).data.toList = s.data.toList ++ t.data.toList := by rw [ByteArray.data_append, Array.toList_append]
theorem dbl_len (s : ByteArray) : s.data.toList.length = s.size := Array.length_toList
theorem ext_app1 (s x : ByteArray) (n : Nat) (h : n ≤ s.size) : (s ++ x).extract 0 n = s.extract 0 n := by
  apply dba_ext
  rw [dbl_ext, dbl_ext, dbl_app, List.drop_zero, List.drop_zero, List.take_append_of_le_length (by rw [dbl_len]; omega)]
theorem ext_app2 (s x : ByteArray) (n : Nat) (h : n ≤ s.size) : (s ++ x).extract n (s ++ x).size = s.extract n s.size ++ x := by
  apply dba_ext
  rw [dbl_ext, dbl_app, dbl_app, dbl_ext, List.drop_append_of_le_length (by rw [dbl_len]; omega), List.take_of_length_le, List.take_of_length_le]
  · rw [List.length_drop, dbl_len]; omega
  · rw [List.length_append, List.length_drop, dbl_len, dbl_len, ByteArray.size_append]; omega
theorem ext_nil (s : ByteArray) (n : Nat) : s.extract n n = ⟨#[]⟩ := by apply dba_ext; rw [dbl_ext, Nat.sub_self, List.take_zero]
theorem ext_split (s : ByteArray) (n k : Nat) (h : n ≤ s.size) : s.extract 0 (n + k) = s.extract 0 n ++ (s.extract n s.size).extract 0 k := by
  apply dba_ext
  rw [dbl_app, dbl_ext, dbl_ext, dbl_ext, dbl_ext, List.drop_zero, List.drop_zero, List.take_of_length_le (l := s.data.toList.drop n) (by rw [List.length_drop, dbl_len]; omega), Nat.sub_zero, Nat.sub_zero, Nat.sub_zero, List.take_add]
theorem DGo.fs {d : Dk} {k : Nat} (h : DGo d k) (j : Nat) : 0 ≤ (d.get j).safe ∧ (d.get j).safe ≤ (d.get j).s.size := by
  unfold Dk.get
  split
  · exact h.ok.s0
  · exact h.ok.s1
theorem goes_ref {d : Dk} (harm : 0 ≤ d.arm) : goesR (refD d) = if d.arm = 1 then (refD { d with ops := d.ops + 1, arm := 0, dead := true }, true) else (refD { d with ops := d.ops + 1, arm := max (d.arm - 1) 0 }, false) := by
  unfold goesR
  show (if d.arm = 1 then _ else if 0 < d.arm then _ else _) = _
  by_cases h : d.arm = 1
  · rw [if_pos h, if_pos h]; rfl
  · rw [if_neg h, if_neg h]
    by_cases h0 : 0 < d.arm
    · rw [if_pos h0, show max (d.arm - 1) 0 = d.arm - 1 by omega]; rfl
    · rw [if_neg h0, show max (d.arm - 1) 0 = d.arm by omega]; rfl
theorem refD_lay (d : Dk) (j : Nat) (hj : j < 2) (x : ByteArray) (hs : 0 ≤ (d.get j).safe ∧ (d.get j).safe ≤ (d.get j).s.size) : refD (layP j x d) = (refD d).setL j ((refD d).l j ++ x) := by
  have h1 := ext_app1 (d.get j).s x (d.get j).safe.toNat (by omega)
  have h2 := ext_app2 (d.get j).s x (d.get j).safe.toNat (by omega)
  rcases (show j = 0 ∨ j = 1 by omega) with rfl | rfl
  · simp only [layP, refD, Dk.set, Dk.get, RD.setL, RD.l, if_true] at *
    rw [h1, h2]
  · simp only [layP, refD, Dk.set, Dk.get, RD.setL, RD.l, if_neg Nat.one_ne_zero] at *
    rw [h1, h2]
theorem refD_sync (d : Dk) (j : Nat) (hj : j < 2) : refD (syncP j d) = ((refD d).setS j ((refD d).s j ++ (refD d).l j)).setL j ⟨#[]⟩ := by
  have h1 := ba_split (d.get j).s (d.get j).safe.toNat
  have h2 := ext_nil (d.get j).s (d.get j).s.size
  have h3 := ba_all (d.get j).s (d.get j).s.size (Nat.le_refl _)
  rcases (show j = 0 ∨ j = 1 by omega) with rfl | rfl
  · simp only [syncP, refD, Dk.set, Dk.get, RD.setL, RD.setS, RD.s, RD.l, if_true, Int.toNat_natCast] at *
    rw [h1, h2, h3]
  · simp only [syncP, refD, Dk.set, Dk.get, RD.setL, RD.setS, RD.s, RD.l, if_neg Nat.one_ne_zero, Int.toNat_natCast] at *
    rw [h1, h2, h3]
theorem refD_clear (d : Dk) (j : Nat) (hj : j < 2) : refD (clearP j d) = (((refD d).setS j ⟨#[]⟩).setL j ⟨#[]⟩).setH j false := by
  rcases (show j = 0 ∨ j = 1 by omega) with rfl | rfl <;> rfl
theorem refD_half (d : Dk) (j : Nat) (hj : j < 2) : refD (halfP j d) = (refD d).setH j true := by
  rcases (show j = 0 ∨ j = 1 by omega) with rfl | rfl <;> rfl
theorem up_lay (d : Dk) (j : Nat) (x : ByteArray) (hn : IntKind.i64.wrap (d.ops + 1) = d.ops + 1) : opUp (layP j x d) = layP j x { d with ops := d.ops + 1 } := by
  unfold opUp layP Dk.set Dk.get; split <;> simp only [hn]
theorem up_sync (d : Dk) (j : Nat) (hn : IntKind.i64.wrap (d.ops + 1) = d.ops + 1) : opUp (syncP j d) = syncP j { d with ops := d.ops + 1 } := by
  unfold opUp syncP Dk.set Dk.get; split <;> simp only [hn]
theorem up_clear (d : Dk) (j : Nat) (hn : IntKind.i64.wrap (d.ops + 1) = d.ops + 1) : opUp (clearP j d) = clearP j { d with ops := d.ops + 1 } := by
  unfold opUp clearP Dk.set ; split <;> simp only [hn]
theorem up_half (d : Dk) (j : Nat) (hn : IntKind.i64.wrap (d.ops + 1) = d.ops + 1) : opUp (halfP j d) = halfP j { d with ops := d.ops + 1 } := by
  unfold opUp halfP Dk.set Dk.get; split <;> simp only [hn]
theorem up_id (d : Dk) (hn : IntKind.i64.wrap (d.ops + 1) = d.ops + 1) : opUp d = { d with ops := d.ops + 1 } := by
  unfold opUp; simp only [hn]
theorem append_ref {d : Dk} {k : Nat} (h : DGo d k) (hk : k ≤ 1000) (a : Int) (x : ByteArray) : appendR (refD d) a x = (refD (appendP d a x).1, (appendP d a x).2) := by
  have hop := h.ok.ops
  have hfew := h.few
  unfold appendR appendP
  rw [wrong_ref h.pos]
  by_cases hu : upP d a = 0
  · obtain ⟨_, hdd, j, rfl, hj⟩ := upP_ok hu
    have hne : ¬ (upP d (j : Int) ≠ 0) := by simp [hu]
    rw [if_neg hne, if_neg hne]
    have e0 : ((refD d).s0.size : Int) + (refD d).s1.size + (refD d).l0.size + (refD d).l1.size = (d.f0.s.size : Int) + d.f1.s.size := by
      have h0 := h.ok.s0
      have h1 := h.ok.s1
      show ((d.f0.s.extract 0 d.f0.safe.toNat).size : Int) + (d.f1.s.extract 0 d.f1.safe.toNat).size + (d.f0.s.extract d.f0.safe.toNat d.f0.s.size).size + (d.f1.s.extract d.f1.safe.toNat d.f1.s.size).size = _
      rw [set_size _ _ _ (by omega) (by omega), set_size _ _ _ (by omega) (by omega), set_size _ _ _ (by omega) (by omega), set_size _ _ _ (by omega) (by omega)]
      omega
    rw [e0]
    have e1 : (refD d).room = d.room := rfl
    rw [e1]
    by_cases hf : d.room - (d.f0.s.size : Int) - (d.f1.s.size : Int) < (x.size : Int)
    · rw [if_pos (by omega), if_pos hf]
    · rw [if_neg (by omega), if_neg hf, goes_ref h.ok.arm.1, opP, show ((j : Int)).toNat = j from rfl]
      have hw : IntKind.i64.wrap (d.ops + 1) = d.ops + 1 := IntWalk.i64_in _ (by omega)
      by_cases ha : d.arm = 1
      · rw [if_pos ha, if_pos ha]
        dsimp only
        rw [if_pos rfl, up_lay _ _ _ (by exact hw), refD_lay _ j hj x (by exact h.fs j)]
      · rw [if_neg ha, if_neg ha]
        dsimp only
        rw [if_neg (by simp), up_lay _ _ _ (by exact hw), refD_lay _ j hj x (by exact h.fs j)]
  · rw [if_pos hu, if_pos hu]
theorem sync_ref {d : Dk} {k : Nat} (h : DGo d k) (hk : k ≤ 1000) (a : Int) : syncR (refD d) a = (refD (syncFP d a).1, (syncFP d a).2) := by
  have hop := h.ok.ops
  have hfew := h.few
  unfold syncR syncFP
  rw [wrong_ref h.pos]
  by_cases hu : upP d a = 0
  · obtain ⟨_, hdd, j, rfl, hj⟩ := upP_ok hu
    have hne : ¬ (upP d (j : Int) ≠ 0) := by simp [hu]
    rw [if_neg hne, if_neg hne, goes_ref h.ok.arm.1, opP, show ((j : Int)).toNat = j from rfl]
    have hw : IntKind.i64.wrap (d.ops + 1) = d.ops + 1 := IntWalk.i64_in _ (by omega)
    by_cases ha : d.arm = 1
    · rw [if_pos ha, if_pos ha]
      dsimp only [id]
      rw [if_pos rfl, up_id _ (by exact hw)]
    · rw [if_neg ha, if_neg ha]
      dsimp only
      rw [if_neg (by simp), up_sync _ _ (by exact hw), refD_sync _ j hj]
  · rw [if_pos hu, if_pos hu]
theorem reset_ref {d : Dk} {k : Nat} (h : DGo d k) (hk : k ≤ 1000) (a : Int) : resetR (refD d) a = (refD (resetP d a).1, (resetP d a).2) := by
  have hop := h.ok.ops
  have hfew := h.few
  unfold resetR resetP
  rw [wrong_ref h.pos]
  by_cases hu : upP d a = 0
  · obtain ⟨_, hdd, j, rfl, hj⟩ := upP_ok hu
    have hne : ¬ (upP d (j : Int) ≠ 0) := by simp [hu]
    rw [if_neg hne, if_neg hne, goes_ref h.ok.arm.1, opP, show ((j : Int)).toNat = j from rfl]
    have hw : IntKind.i64.wrap (d.ops + 1) = d.ops + 1 := IntWalk.i64_in _ (by omega)
    by_cases ha : d.arm = 1
    · rw [if_pos ha, if_pos ha]
      dsimp only
      rw [if_pos rfl, up_half _ _ (by exact hw), refD_half _ j hj]
    · rw [if_neg ha, if_neg ha]
      dsimp only
      rw [if_neg (by simp), up_clear _ _ (by exact hw), refD_clear _ j hj]
  · rw [if_pos hu, if_pos hu]
theorem arm_ref {d : Dk} (h : 0 < d.room) (k : Int) : armR (refD d) k = (refD (armP d k).1, (armP d k).2) := by
  unfold armR armP upP
  have h20 : ((20 : Int) ≠ 0) := by decide
  have h00 : ¬ ((if (0 : Int) < 0 ∨ 2 ≤ (0 : Int) then (2 : Int) else 0) ≠ 0) := by decide
  rw [if_neg (show ¬ d.room ≤ 0 by omega)]
  show (if d.dead = true then _ else _) = _
  by_cases hd : d.dead = true
  · rw [if_pos hd, if_pos hd, if_pos h20]
  · rw [if_neg hd, if_neg hd, if_neg h00]
    split <;> rfl
theorem left_ref (f : Fl) (c : Ch) (h : 0 ≤ f.safe ∧ f.safe ≤ f.s.size) : leftR (f.s.extract 0 f.safe.toNat) (f.s.extract f.safe.toNat f.s.size) f.half c = (leftP f c).s := by
  unfold leftR leftP
  split
  · rfl
  · dsimp only
    rw [set_size f.s f.safe.toNat f.s.size (by omega) (by omega), ext_split f.s f.safe.toNat (keepP f c) (by omega)]
    rfl
theorem left_safe (f : Fl) (c : Ch) : (leftP f c).safe = ((leftP f c).s.size : Int) := by
  unfold leftP; split <;> rfl
theorem left_half (f : Fl) (c : Ch) : (leftP f c).half = false := by unfold leftP; split <;> rfl
theorem left_size (f : Fl) (c : Ch) (h : 0 ≤ f.safe ∧ f.safe ≤ f.s.size) : (leftP f c).s.size ≤ f.s.size := by
  unfold leftP
  split
  · exact Nat.zero_le _
  · dsimp only
    have : keepP f c ≤ f.s.size - f.safe.toNat := Nat.min_le_right _ _
    rw [ByteArray.size_append, set_size _ _ _ (by omega) (by omega), set_size _ _ _ (by omega) (by omega)]
    omega
theorem boot_ref {d : Dk} {k : Nat} (h : DGo d k) (a b : Ch) : bootR (refD d) a b = refD (bootP d a b).1 ∧ (bootP d a b).2 = 0 := by
  unfold bootR bootP
  rw [if_neg (show ¬ d.room ≤ 0 by have := h.pos; omega)]
  refine ⟨?_, rfl⟩
  show (RD.mk (leftR (d.f0.s.extract 0 d.f0.safe.toNat) (d.f0.s.extract d.f0.safe.toNat d.f0.s.size) d.f0.half a) (leftR (d.f1.s.extract 0 d.f1.safe.toNat) (d.f1.s.extract d.f1.safe.toNat d.f1.s.size) d.f1.half b) _ _ _ _ _ _ _ _) = RD.mk _ _ _ _ _ _ _ _ _ _
  rw [left_ref _ _ h.ok.s0, left_ref _ _ h.ok.s1]
  dsimp only
  rw [left_safe, left_safe, left_half, left_half, Int.toNat_natCast, Int.toNat_natCast, ext_nil, ext_nil, ba_all _ _ (Nat.le_refl _), ba_all _ _ (Nat.le_refl _)]
  rfl
theorem do_ref {d : Dk} {k : Nat} (h : DGo d k) (hk : k ≤ 1000) (x : ActP) : refDoP (refD d) x = (refD (doP d x).1, (doP d x).2) := by
  unfold refDoP doP
  split
  · rw [append_ref h hk]
  · split
    · rw [sync_ref h hk]
    · split
      · rw [reset_ref h hk]
      · split
        · rw [read_ref h.pos]
        · split
          · rw [arm_ref h.pos]
          · split
            · unfold offP; rw [if_neg (show ¬ d.room ≤ 0 by have := h.pos; omega)]; rfl
            · split
              · rw [(boot_ref h _ _).1, (boot_ref h _ _).2]
              · rfl
theorem dgo_lay {d : Dk} {k : Nat} (h : DGo d k) (j : Nat) (hj : j < 2) (x : ByteArray) (hx : (d.f0.s.size : Int) + d.f1.s.size + x.size ≤ d.room) : DGo (layP j x d) k := by
  obtain ⟨⟨c1, c2, c3, c4, c5, c6⟩, hp, hf⟩ := h
  rcases (show j = 0 ∨ j = 1 by omega) with rfl | rfl
  · refine ⟨⟨c1, ?_, c3, ?_, c5, c6⟩, hp, hf⟩
    · show 0 ≤ d.f0.safe ∧ d.f0.safe ≤ (d.f0.s ++ x).size; rw [ByteArray.size_append]; omega
    · show ((d.f0.s ++ x).size : Int) + d.f1.s.size ≤ max d.room 0; rw [ByteArray.size_append]; omega
  · refine ⟨⟨c1, c2, ?_, ?_, c5, c6⟩, hp, hf⟩
    · show 0 ≤ d.f1.safe ∧ d.f1.safe ≤ (d.f1.s ++ x).size; rw [ByteArray.size_append]; omega
    · show (d.f0.s.size : Int) + (d.f1.s ++ x).size ≤ max d.room 0; rw [ByteArray.size_append]; omega
theorem dgo_sync {d : Dk} {k : Nat} (h : DGo d k) (j : Nat) (hj : j < 2) : DGo (syncP j d) k := by
  obtain ⟨⟨c1, c2, c3, c4, c5, c6⟩, hp, hf⟩ := h
  rcases (show j = 0 ∨ j = 1 by omega) with rfl | rfl
  · refine ⟨⟨c1, ?_, c3, c4, c5, c6⟩, hp, hf⟩
    show 0 ≤ (d.f0.s.size : Int) ∧ (d.f0.s.size : Int) ≤ d.f0.s.size; omega
  · refine ⟨⟨c1, c2, ?_, c4, c5, c6⟩, hp, hf⟩
    show 0 ≤ (d.f1.s.size : Int) ∧ (d.f1.s.size : Int) ≤ d.f1.s.size; omega
theorem dgo_clear {d : Dk} {k : Nat} (h : DGo d k) (j : Nat) (hj : j < 2) : DGo (clearP j d) k := by
  obtain ⟨⟨c1, c2, c3, c4, c5, c6⟩, hp, hf⟩ := h
  rcases (show j = 0 ∨ j = 1 by omega) with rfl | rfl
  · refine ⟨⟨c1, ⟨Int.le_refl 0, Int.le_refl 0⟩, c3, ?_, c5, c6⟩, hp, hf⟩
    show ((0 : Nat) : Int) + d.f1.s.size ≤ max d.room 0; omega
  · refine ⟨⟨c1, c2, ⟨Int.le_refl 0, Int.le_refl 0⟩, ?_, c5, c6⟩, hp, hf⟩
    show (d.f0.s.size : Int) + (0 : Nat) ≤ max d.room 0; omega
theorem dgo_half {d : Dk} {k : Nat} (h : DGo d k) (j : Nat) (hj : j < 2) : DGo (halfP j d) k := by
  obtain ⟨⟨c1, c2, c3, c4, c5, c6⟩, hp, hf⟩ := h
  rcases (show j = 0 ∨ j = 1 by omega) with rfl | rfl
  · exact ⟨⟨c1, c2, c3, c4, c5, c6⟩, hp, hf⟩
  · exact ⟨⟨c1, c2, c3, c4, c5, c6⟩, hp, hf⟩
theorem DGo.with {d : Dk} {k : Nat} (h : DGo d k) (n m : Int) (b : Bool) (k' : Nat) (hn : 0 ≤ n ∧ n ≤ k') (hm : 0 ≤ m ∧ m ≤ 1000000) : DGo { d with ops := n, arm := m, dead := b } k' :=
  ⟨⟨h.ok.room, h.ok.s0, h.ok.s1, h.ok.full, hn.1, hm⟩, h.pos, hn.2⟩
theorem dgo_op {d : Dk} {k : Nat} (h : DGo d k) (hk : k ≤ 1000) (done torn : Dk → Dk) (hd : ∀ n m b, 0 ≤ n → n ≤ ((k + 1 : Nat) : Int) → 0 ≤ m → m ≤ 1000000 → DGo (done { d with ops := n, arm := m, dead := b }) (k + 1))
    (ht : ∀ n m b, 0 ≤ n → n ≤ ((k + 1 : Nat) : Int) → 0 ≤ m → m ≤ 1000000 → DGo (torn { d with ops := n, arm := m, dead := b }) (k + 1))
    (ud : ∀ d' : Dk, IntKind.i64.wrap (d'.ops + 1) = d'.ops + 1 → opUp (done d') = done { d' with ops := d'.ops + 1 }) (ut : ∀ d' : Dk, IntKind.i64.wrap (d'.ops + 1) = d'.ops + 1 → opUp (torn d') = torn { d' with ops := d'.ops + 1 }) : DGo (opP d done torn).1 (k + 1) := by
  have hop := h.ok.ops
  have hfew := h.few
  have harm := h.ok.arm
  have hw : IntKind.i64.wrap (d.ops + 1) = d.ops + 1 := IntWalk.i64_in _ (by omega)
  unfold opP
  split
  · dsimp only
    rw [ut _ (by exact hw)]
    exact ht _ _ _ (by dsimp only; omega) (by dsimp only; omega) (by dsimp only; omega) (by dsimp only; omega)
  · dsimp only
    rw [ud _ (by exact hw)]
    exact hd _ _ _ (by dsimp only; omega) (by dsimp only; omega) (by dsimp only; omega) (by dsimp only; omega)
theorem DGo.up {d : Dk} {k : Nat} (h : DGo d k) : DGo d (k + 1) := ⟨h.ok, h.pos, by have := h.few; omega⟩
theorem dgo_do {d : Dk} {k : Nat} (h : DGo d k) (hk : k ≤ 1000) (x : ActP) : DGo (doP d x).1 (k + 1) := by
  unfold doP
  split
  · unfold appendP
    by_cases hu : upP d x.n = 0
    · obtain ⟨_, hdd, j, hx, hj⟩ := upP_ok hu
      rw [hx] at hu ⊢
      rw [if_neg (by simp [hu])]
      split
      · exact h.up
      · exact dgo_op h hk _ _ (fun n m b h1 h2 h3 h4 => dgo_lay (h.with n m b (k + 1) ⟨h1, h2⟩ ⟨h3, h4⟩) j hj _ (by dsimp only; omega)) (fun n m b h1 h2 h3 h4 => dgo_lay (h.with n m b (k + 1) ⟨h1, h2⟩ ⟨h3, h4⟩) j hj _ (by dsimp only; omega))
          (fun d' hw => up_lay d' _ _ hw) (fun d' hw => up_lay d' _ _ hw)
    · rw [if_pos hu]; exact h.up
  · split
    · unfold syncFP
      by_cases hu : upP d x.n = 0
      · obtain ⟨_, hdd, j, hx, hj⟩ := upP_ok hu
        rw [hx] at hu ⊢
        rw [if_neg (by simp [hu])]
        exact dgo_op h hk _ _ (fun n m b h1 h2 h3 h4 => dgo_sync (h.with n m b (k + 1) ⟨h1, h2⟩ ⟨h3, h4⟩) j hj) (fun n m b h1 h2 h3 h4 => h.with n m b (k + 1) ⟨h1, h2⟩ ⟨h3, h4⟩)
          (fun d' hw => up_sync d' _ hw) (fun d' hw => up_id d' hw)
      · rw [if_pos hu]; exact h.up
    · split
      · unfold resetP
        by_cases hu : upP d x.n = 0
        · obtain ⟨_, hdd, j, hx, hj⟩ := upP_ok hu
          rw [hx] at hu ⊢
          rw [if_neg (by simp [hu])]
          exact dgo_op h hk _ _ (fun n m b h1 h2 h3 h4 => dgo_clear (h.with n m b (k + 1) ⟨h1, h2⟩ ⟨h3, h4⟩) j hj) (fun n m b h1 h2 h3 h4 => dgo_half (h.with n m b (k + 1) ⟨h1, h2⟩ ⟨h3, h4⟩) j hj)
            (fun d' hw => up_clear d' _ hw) (fun d' hw => up_half d' _ hw)
        · rw [if_pos hu]; exact h.up
      · split
        · exact h.up
        · split
          · unfold armP
            split
            · exact h.up
            · split
              · exact h.up
              · exact ⟨⟨h.ok.room, h.ok.s0, h.ok.s1, h.ok.full, h.ok.ops, by dsimp only; omega⟩, h.pos, h.up.few⟩
          · split
            · unfold offP
              split
              · exact h.up
              · exact ⟨⟨h.ok.room, h.ok.s0, h.ok.s1, h.ok.full, h.ok.ops, h.ok.arm⟩, h.pos, h.up.few⟩
            · split
              · unfold bootP
                split
                · exact h.up
                · have b0 := left_size d.f0 x.a h.ok.s0
                  have b1 := left_size d.f1 x.b h.ok.s1
                  have e0 := left_safe d.f0 x.a
                  have e1 := left_safe d.f1 x.b
                  have hf := h.ok.full
                  exact ⟨⟨h.ok.room, ⟨by dsimp only; omega, by dsimp only; omega⟩, ⟨by dsimp only; omega, by dsimp only; omega⟩, by dsimp only; omega, h.ok.ops, by dsimp only; omega⟩, h.pos, h.up.few⟩
              · exact h.up
theorem ref_ok {d : Dk} {k : Nat} (h : DGo d k) (hk : k ≤ 1000) : ROk (refD d) := by
  have h0 := h.ok.s0
  have h1 := h.ok.s1
  have hf := h.ok.full
  have hr := h.ok.room
  have hop := h.ok.ops
  have hfew := h.few
  refine ⟨?_, ?_, ?_, ?_, ⟨hop, by show d.ops ≤ _; omega⟩, h.ok.arm⟩
  · show (d.f0.s.extract 0 d.f0.safe.toNat).size ≤ _; rw [set_size _ _ _ (by omega) (by omega)]; omega
  · show (d.f1.s.extract 0 d.f1.safe.toNat).size ≤ _; rw [set_size _ _ _ (by omega) (by omega)]; omega
  · show (d.f0.s.extract d.f0.safe.toNat d.f0.s.size).size ≤ _; rw [set_size _ _ _ (by omega) (by omega)]; omega
  · show (d.f1.s.extract d.f1.safe.toNat d.f1.s.size).size ≤ _; rw [set_size _ _ _ (by omega) (by omega)]; omega
theorem ref_safe {d : Dk} {k : Nat} (h : DGo d k) (j : Nat) (hj : j < 2) : (((refD d).s j).size : Int) = syncedP d j := by
  have h0 := h.ok.s0
  have h1 := h.ok.s1
  have hp := h.pos
  unfold syncedP
  rw [if_neg (by omega)]
  rcases (show j = 0 ∨ j = 1 by omega) with rfl | rfl
  · show (((d.f0.s.extract 0 d.f0.safe.toNat).size : Nat) : Int) = d.f0.safe
    rw [set_size _ _ _ (by omega) (by omega)]; omega
  · show (((d.f1.s.extract 0 d.f1.safe.toNat).size : Nat) : Int) = d.f1.safe
    rw [set_size _ _ _ (by omega) (by omega)]; omega
def d0 (k : Int) : Dk := ⟨⟨⟨#[]⟩, 0, false⟩, ⟨⟨#[]⟩, 0, false⟩, k, 0, 0, false⟩
def r0 (k : Int) : RD := ⟨⟨#[]⟩, ⟨#[]⟩, ⟨#[]⟩, ⟨#[]⟩, false, false, k, 0, 0, false⟩
theorem r0_ref (k : Int) : r0 k = refD (d0 k) := by
  show _ = RD.mk ((⟨#[]⟩ : ByteArray).extract 0 0) ((⟨#[]⟩ : ByteArray).extract 0 0) ((⟨#[]⟩ : ByteArray).extract 0 0) ((⟨#[]⟩ : ByteArray).extract 0 0) _ _ _ _ _ _
  rw [ext_nil]; rfl
theorem d0_go (k : Int) (h : 1 ≤ k ∧ k ≤ 1000000) : DGo (d0 k) 0 :=
  ⟨⟨h.2, ⟨Int.le_refl 0, Int.le_refl 0⟩, ⟨Int.le_refl 0, Int.le_refl 0⟩, by show ((0 : Nat) : Int) + (0 : Nat) ≤ max k 0; omega, Int.le_refl 0, ⟨Int.le_refl 0, by show (0 : Int) ≤ 1000000; decide⟩⟩, by show 0 < k; omega, Int.le_refl 0⟩
/-- calls are so few -/
def actOk (x : ActP) : Bool := decide (x.text.size ≤ 2000) && decide (x.a.trash.size ≤ 2000) && decide (x.b.trash.size ≤ 2000)
def fewA (l : List ActP) : Bool := decide (l.length ≤ 80) && l.all actOk
instance : Inhabited ActP := ⟨⟨0, 0, ⟨#[]⟩, ⟨0, ⟨#[]⟩, false⟩, ⟨0, ⟨#[]⟩, false⟩⟩⟩
theorem few_no {l : List ActP} {k : Nat} (hk : k < l.length) (h : 2000 < (l.getD k default).text.size ∨ 2000 < (l.getD k default).a.trash.size ∨ 2000 < (l.getD k default).b.trash.size) : fewA l = false := by
  have : l.all actOk = false := by
    rw [List.all_eq_false]
    refine ⟨l[k], List.getElem_mem hk, ?_⟩
    simp [List.getD, hk] at h
    unfold actOk
    rcases h with h | h | h <;> simp <;> omega
  unfold fewA; rw [this, Bool.and_false]
theorem few_yes {l : List ActP} (h0 : l.length ≤ 80) (h : ∀ j, j < l.length → actOk (l.getD j default) = true) : fewA l = true := by
  unfold fewA
  rw [decide_eq_true h0, Bool.true_and, List.all_eq_true]
  intro x hx
  obtain ⟨j, hj, rfl⟩ := List.mem_iff_getElem.1 hx
  have := h j hj
  simpa [List.getD, hj] using this
theorem few_len {l : List ActP} (h : fewA l = true) : l.length ≤ 80 := by unfold fewA at h; simp at h; exact h.1
theorem few_at {l : List ActP} (h : fewA l = true) {k : Nat} (hk : k < l.length) : (l.getD k default).text.size ≤ 2000 ∧ (l.getD k default).a.trash.size ≤ 2000 ∧ (l.getD k default).b.trash.size ≤ 2000 := by
  unfold fewA at h; simp only [Bool.and_eq_true, List.all_eq_true] at h
  have := h.2 l[k] (List.getElem_mem hk)
  unfold actOk at this
  simp at this
  simp only [List.getD_eq_getElem?_getD, List.getElem?_eq_getElem hk, Option.getD_some]
  omega
end Go.Proofs.YtfjmmebjfllciaaDoor
