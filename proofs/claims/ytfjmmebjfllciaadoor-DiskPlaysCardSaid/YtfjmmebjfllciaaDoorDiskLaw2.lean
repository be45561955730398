/- A disk: what the laws ask, plainly. -/
import Derived.Test.YtfjmmebjfllciaaDoorDiskLaw
namespace Go.Proofs.YtfjmmebjfllciaaDoor
set_option linter.unusedVariables false
set_option linter.unusedSimpArgs false
/-- the disk of a law about what is torn -/
def tD (s : ByteArray) (safe ops : Int) (dead : Bool) : Dk := ⟨⟨⟨#[]⟩, 0, false⟩, ⟨s, safe, false⟩, 20000, ops, 0, dead⟩
theorem nil_app (s : ByteArray) : (⟨#[]⟩ : ByteArray) ++ s = s := by apply dba_ext; rw [dbl_app]; rfl
theorem torn1 (s : ByteArray) (h : s.size ≤ 2000) : appendP (d0 20000) 1 s = (tD s 0 1 false, 0) := by
  unfold appendP
  have hu : ¬ (upP (d0 20000) 1 ≠ 0) := by decide
  have hr : ¬ ((d0 20000).room - ((d0 20000).f0.s.size : Int) - ((d0 20000).f1.s.size : Int) < (s.size : Int)) := by
    show ¬ ((20000 : Int) - ((0 : Nat) : Int) - ((0 : Nat) : Int) < (s.size : Int)); omega
  rw [if_neg hu, if_neg hr, opP, if_neg (show ¬ (d0 20000).arm = 1 by decide)]
  show (Dk.mk ⟨⟨#[]⟩, 0, false⟩ ⟨⟨#[]⟩ ++ s, 0, false⟩ 20000 _ _ false, (0 : Int)) = _
  rw [nil_app]; rfl
theorem torn2 (s : ByteArray) : syncFP (tD s 0 1 false) 1 = (tD s s.size 2 false, 0) := rfl
theorem torn3 (s l : ByteArray) (h : s.size ≤ 2000) (hl : l.size ≤ 2000) : appendP (tD s s.size 2 false) 1 l = (tD (s ++ l) s.size 3 false, 0) := by
  unfold appendP
  have hu : ¬ (upP (tD s s.size 2 false) 1 ≠ 0) := by intro h; exact h rfl
  have hr : ¬ ((tD s s.size 2 false).room - ((tD s s.size 2 false).f0.s.size : Int) - ((tD s s.size 2 false).f1.s.size : Int) < (l.size : Int)) := by
    show ¬ ((20000 : Int) - ((0 : Nat) : Int) - (s.size : Int) < (l.size : Int)); omega
  rw [if_neg hu, if_neg hr, opP, if_neg (show ¬ (tD s s.size 2 false).arm = 1 from fun h => by cases h)]
  rfl
theorem torn4 (s : ByteArray) (n : Int) : offP (tD s n 3 false) = (tD s n 3 true, 0) := rfl
def tE (s : ByteArray) (n : Int) (c : Ch) : Dk := ⟨⟨⟨#[]⟩, 0, false⟩, leftP ⟨s, n, false⟩ c, 20000, 3, 0, false⟩
theorem torn5 (s : ByteArray) (n : Int) (c : Ch) : bootP (tD s n 3 true) ⟨0, ⟨#[]⟩, false⟩ c = (tE s n c, 0) := rfl
theorem torn6 (s : ByteArray) (n : Int) (c : Ch) : readP (tE s n c) 1 = ((leftP ⟨s, n, false⟩ c).s, 0) := rfl
theorem ok_tD (s : ByteArray) (n o : Int) (b : Bool) (h : s.size ≤ 4000) (hn : 0 ≤ n ∧ n ≤ s.size) (ho : 0 ≤ o) : DOk (tD s n o b) :=
  ⟨by show (20000 : Int) ≤ 1000000; decide, ⟨Int.le_refl 0, Int.le_refl 0⟩, hn, by show ((0 : Nat) : Int) + (s.size : Int) ≤ max 20000 0; omega, ho, ⟨Int.le_refl 0, by show (0 : Int) ≤ 1000000; decide⟩⟩
/-- how much of what was loose is kept, and what was torn -/
def tK (l : ByteArray) (c : Ch) : Nat := min (max c.keep 0).toNat l.size
def tN (l : ByteArray) (c : Ch) : Nat := min c.trash.size (l.size - tK l c)
def tT (l : ByteArray) (c : Ch) : ByteArray := c.trash.extract 0 (tN l c)
theorem tK_le (l : ByteArray) (c : Ch) : tK l c ≤ l.size := Nat.min_le_right _ _
theorem tT_size (l : ByteArray) (c : Ch) : (tT l c).size = tN l c := set_size _ _ _ (Nat.zero_le _) (Nat.min_le_left _ _)
def tO (s l : ByteArray) (c : Ch) : ByteArray := (s ++ l.extract 0 (tK l c)) ++ tT l c
theorem torn_out (s l : ByteArray) (c : Ch) : (leftP ⟨s ++ l, s.size, false⟩ c).s = tO s l c := by
  have e1 : keepP ⟨s ++ l, s.size, false⟩ c = tK l c := by
    show min (max c.keep 0).toNat ((s ++ l).size - ((s.size : Int)).toNat) = _
    rw [ByteArray.size_append, Int.toNat_natCast, Nat.add_sub_cancel_left]; rfl
  unfold leftP
  rw [if_neg (by rintro ⟨x, -⟩; cases x)]
  dsimp only
  rw [e1, Int.toNat_natCast, ByteArray.size_append, Nat.add_sub_cancel_left]
  have e2 : (s ++ l).extract 0 (s.size + tK l c) = s ++ l.extract 0 (tK l c) := by
    rw [ext_split (s ++ l) s.size (tK l c) (by rw [ByteArray.size_append]; omega), ext_app1 s l s.size (Nat.le_refl _), ext_app2 s l s.size (Nat.le_refl _), ba_all s s.size (Nat.le_refl _), ext_nil, nil_app]
  rw [e2]; rfl
theorem tO_size (s l : ByteArray) (c : Ch) : (tO s l c).size = s.size + tK l c + tN l c := by
  have := tK_le l c
  unfold tO
  rw [ByteArray.size_append, ByteArray.size_append, tT_size, set_size _ _ _ (Nat.zero_le _) this, Nat.sub_zero]
theorem tO_head (s l : ByteArray) (c : Ch) : (tO s l c).extract 0 (s.size + tK l c) = s ++ l.extract 0 (tK l c) := by
  have := tK_le l c
  have e : (s ++ l.extract 0 (tK l c)).size = s.size + tK l c := by rw [ByteArray.size_append, set_size _ _ _ (Nat.zero_le _) this, Nat.sub_zero]
  unfold tO
  rw [← e, ext_app1 _ _ _ (Nat.le_refl _), ba_all _ _ (Nat.le_refl _)]
theorem tO_tail (s l : ByteArray) (c : Ch) : (tO s l c).extract (s.size + tK l c) (tO s l c).size = tT l c := by
  have := tK_le l c
  have e : (s ++ l.extract 0 (tK l c)).size = s.size + tK l c := by rw [ByteArray.size_append, set_size _ _ _ (Nat.zero_le _) this, Nat.sub_zero]
  rw [← e]; unfold tO
  rw [ext_app2 _ _ _ (Nat.le_refl _), ext_nil, nil_app]
theorem tN_le (l : ByteArray) (c : Ch) : tN l c ≤ c.trash.size ∧ tK l c + tN l c ≤ l.size ∧ (tN l c = c.trash.size ∨ tK l c + tN l c = l.size) := by
  have := tK_le l c
  unfold tN; omega
theorem tK_int (l : ByteArray) (c : Ch) : (tK l c : Int) = min (max c.keep 0) (l.size : Int) := by unfold tK; omega
/-- nobody's disk -/
theorem do_zero (x : ActP) (h : 0 ≤ x.kind ∧ x.kind ≤ 6) : doP (d0 0) x = (d0 0, ⟨#[]⟩, 1) := by
  have hu : ∀ a, upP (d0 0) a = 1 := fun a => by unfold upP; rw [if_pos (show (d0 0).room ≤ 0 from Int.le_refl 0)]
  unfold doP appendP syncFP resetP readP armP offP bootP
  simp only [hu]
  have h1 : ((1 : Int) ≠ 0) := by decide
  have h2 : (d0 0).room ≤ 0 := Int.le_refl 0
  simp only [if_pos h1, if_pos h2]
  by_cases k0 : x.kind = 0
  · rw [if_pos k0]
  rw [if_neg k0]
  by_cases k1 : x.kind = 1
  · rw [if_pos k1]
  rw [if_neg k1]
  by_cases k2 : x.kind = 2
  · rw [if_pos k2]
  rw [if_neg k2]
  by_cases k3 : x.kind = 3
  · rw [if_pos k3]
  rw [if_neg k3]
  by_cases k4 : x.kind = 4
  · rw [if_pos k4]
  rw [if_neg k4]
  by_cases k5 : x.kind = 5
  · rw [if_pos k5]
  rw [if_neg k5, if_pos (by omega)]
theorem ok_d00 : DOk (d0 0) := ⟨by show (0 : Int) ≤ 1000000; decide, ⟨Int.le_refl 0, Int.le_refl 0⟩, ⟨Int.le_refl 0, Int.le_refl 0⟩, by show ((0 : Nat) : Int) + ((0 : Nat) : Int) ≤ max 0 0; omega, Int.le_refl 0, ⟨Int.le_refl 0, by show (0 : Int) ≤ 1000000; decide⟩⟩
/-- a disk, no file of which is half reset -/
structure DSafe (d : Dk) (k : Nat) : Prop where
  go : DGo d k
  h0 : d.f0.half = false
  h1 : d.f1.half = false
theorem safe_op {d : Dk} (done torn : Dk → Dk) (hd : ∀ d' : Dk, d'.f0.half = false → d'.f1.half = false → (done d').f0.half = false ∧ (done d').f1.half = false) (ht : ∀ d' : Dk, d'.f0.half = false → d'.f1.half = false → (torn d').f0.half = false ∧ (torn d').f1.half = false) (h0 : d.f0.half = false) (h1 : d.f1.half = false) :
    (opP d done torn).1.f0.half = false ∧ (opP d done torn).1.f1.half = false := by
  unfold opP
  split
  · exact ht _ h0 h1
  · exact hd _ h0 h1
theorem half_lay (j : Nat) (x : ByteArray) (d' : Dk) (h0 : d'.f0.half = false) (h1 : d'.f1.half = false) : (layP j x d').f0.half = false ∧ (layP j x d').f1.half = false := by
  unfold layP Dk.set Dk.get; split <;> exact ⟨h0, h1⟩
theorem half_sync (j : Nat) (d' : Dk) (h0 : d'.f0.half = false) (h1 : d'.f1.half = false) : (syncP j d').f0.half = false ∧ (syncP j d').f1.half = false := by
  unfold syncP Dk.set Dk.get; split <;> exact ⟨h0, h1⟩
theorem safe_do {d : Dk} {k : Nat} (h : DSafe d k) (hk : k ≤ 1000) (x : ActP) (h2 : x.kind ≠ 2) (h5 : x.kind ≠ 5) (h6 : x.kind ≠ 6) : DSafe (doP d x).1 (k + 1) := by
  have hx : (doP d x).1.f0.half = false ∧ (doP d x).1.f1.half = false := by
    have h0 := h.h0
    have h1 := h.h1
    unfold doP
    split
    · unfold appendP
      split
      · exact ⟨h0, h1⟩
      · split
        · exact ⟨h0, h1⟩
        · exact safe_op _ _ (half_lay _ _) (half_lay _ _) h0 h1
    · split
      · unfold syncFP
        split
        · exact ⟨h0, h1⟩
        · exact safe_op _ _ (half_sync _) (fun _ a b => ⟨a, b⟩) h0 h1
      · split
        · exact ⟨h0, h1⟩
        · split
          · unfold armP
            split
            · exact ⟨h0, h1⟩
            · split <;> exact ⟨h0, h1⟩
          · exact ⟨h0, h1⟩
  exact ⟨dgo_do h.go hk x, hx.1, hx.2⟩
theorem DSafe.up {d : Dk} {k : Nat} (h : DSafe d k) : DSafe d (k + 1) := ⟨h.go.up, h.h0, h.h1⟩
def waL (d : Dk) (f : Nat) : List AV := [.str (if 0 < f then d.f0.s else ⟨#[]⟩), .str (if 1 < f then d.f1.s else ⟨#[]⟩)]
def saL (d : Dk) (f : Nat) : List AV := [.int .i64 (if 0 < f then d.f0.safe else 0), .int .i64 (if 1 < f then d.f1.safe else 0)]
theorem waL_set (d : Dk) (f : Nat) (h : f < 2) (s : ByteArray) (hs : s = (d.get f).s) : (waL d f).take (0 + f * 1) ++ [AV.str s] ++ (waL d f).drop (0 + f * 1 + 1) = waL d (f + 1) := by
  subst hs
  rcases (show f = 0 ∨ f = 1 by omega) with rfl | rfl <;> rfl
theorem saL_set (d : Dk) (f : Nat) (h : f < 2) (n : Int) (hs : n = (d.get f).safe) : (saL d f).take (0 + f * 1) ++ [AV.int .i64 n] ++ (saL d f).drop (0 + f * 1 + 1) = saL d (f + 1) := by
  subst hs
  rcases (show f = 0 ∨ f = 1 by omega) with rfl | rfl <;> rfl
theorem waL_get (d : Dk) (f : Nat) (h : f < 2) : (waL d 2)[0 + f * 1]? = some (.str (d.get f).s) := by
  rcases (show f = 0 ∨ f = 1 by omega) with rfl | rfl <;> rfl
theorem saL_get (d : Dk) (f : Nat) (h : f < 2) : (saL d 2)[0 + f * 1]? = some (.int .i64 (d.get f).safe) := by
  rcases (show f = 0 ∨ f = 1 by omega) with rfl | rfl <;> rfl
@[simp] theorem noH_waL (m : Nat) (d : Dk) (f : Nat) : ∀ x, x ∈ waL d f → NoH m x := by simp [waL]
@[simp] theorem noH_saL (m : Nat) (d : Dk) (f : Nat) : ∀ x, x ∈ saL d f → NoH m x := by simp [saL]
theorem get_half {d : Dk} {k : Nat} (h : DSafe d k) (f : Nat) : (d.get f).half = false := by unfold Dk.get; (split); (exact h.h0); (exact h.h1)
theorem kept_size (f : Fl) (c : Ch) (h : 0 ≤ f.safe ∧ f.safe ≤ f.s.size) (hh : f.half = false) : f.safe ≤ ((leftP f c).s.size : Int) := by
  unfold leftP
  rw [if_neg (by rintro ⟨x, -⟩; rw [hh] at x; cases x)]
  dsimp only
  have : keepP f c ≤ f.s.size - f.safe.toNat := Nat.min_le_right _ _
  rw [ByteArray.size_append, set_size _ _ _ (by omega) (by omega)]
  omega
theorem kept_head (f : Fl) (c : Ch) (h : 0 ≤ f.safe ∧ f.safe ≤ f.s.size) (hh : f.half = false) : (leftP f c).s.extract 0 f.safe.toNat = f.s.extract 0 f.safe.toNat := by
  unfold leftP
  rw [if_neg (by rintro ⟨x, -⟩; rw [hh] at x; cases x)]
  dsimp only
  have : keepP f c ≤ f.s.size - f.safe.toNat := Nat.min_le_right _ _
  rw [ext_app1 _ _ _ (by rw [set_size _ _ _ (by omega) (by omega)]; omega), ext_split f.s f.safe.toNat (keepP f c) (by omega), ext_app1 _ _ _ (by rw [set_size _ _ _ (by omega) (by omega)]; omega),
    ba_all (f.s.extract 0 f.safe.toNat) _ (by rw [set_size _ _ _ (by omega) (by omega)]; omega)]
theorem kept_all (f : Fl) (c : Ch) (h : f.safe = (f.s.size : Int)) (hh : f.half = false) : (leftP f c).s = f.s := by
  unfold leftP
  rw [if_neg (by rintro ⟨x, -⟩; rw [hh] at x; cases x)]
  dsimp only
  have hk : keepP f c = 0 := by unfold keepP; rw [h]; simp
  rw [hk, h, Int.toNat_natCast, Nat.sub_self, Nat.min_zero, ext_nil, ba_all _ _ (by omega)]
  apply dba_ext; rw [dbl_app]; exact List.append_nil _
/-- what is booted -/
def bD (d : Dk) (a b : Ch) : Dk := (bootP (offP d).1 a b).1
theorem bD_get {d : Dk} (h : 0 < d.room) (a b : Ch) (f : Nat) : (bD d a b).get f = leftP (d.get f) (if f = 0 then a else b) := by
  unfold bD bootP offP Dk.get
  rw [if_neg (show ¬ d.room ≤ 0 by omega)]
  dsimp only
  rw [if_neg (show ¬ d.room ≤ 0 by omega)]
  split <;> rfl
theorem bD_room {d : Dk} (h : 0 < d.room) (a b : Ch) : (bD d a b).room = d.room ∧ (bD d a b).dead = false := by
  unfold bD bootP offP
  rw [if_neg (show ¬ d.room ≤ 0 by omega)]
  dsimp only
  rw [if_neg (show ¬ d.room ≤ 0 by omega)]
  exact ⟨rfl, rfl⟩
theorem bD_read {d : Dk} (h : 0 < d.room) (a b : Ch) (f : Nat) (hf : f < 2) : readP (bD d a b) f = ((leftP (d.get f) (if f = 0 then a else b)).s, 0) := by
  unfold readP upP
  rw [(bD_room h a b).1, (bD_room h a b).2, if_neg (show ¬ d.room ≤ 0 by omega), if_neg (show ¬ false = true by decide), if_neg (show ¬ ((f : Int) < 0 ∨ 2 ≤ (f : Int)) by omega), if_neg (by simp), Int.toNat_natCast, bD_get h]
theorem bD_synced {d : Dk} (h : 0 < d.room) (a b : Ch) (f : Nat) (hf : f < 2) : syncedP (bD d a b) f = ((leftP (d.get f) (if f = 0 then a else b)).s.size : Int) := by
  unfold syncedP
  rw [(bD_room h a b).1, if_neg (by omega), Int.toNat_natCast, bD_get h, left_safe]
theorem read_alive {d : Dk} (h : 0 < d.room) (hd : d.dead = false) (f : Nat) (hf : f < 2) : readP d f = ((d.get f).s, 0) := by
  unfold readP upP
  rw [hd, if_neg (show ¬ d.room ≤ 0 by omega), if_neg (show ¬ false = true by decide), if_neg (show ¬ ((f : Int) < 0 ∨ 2 ≤ (f : Int)) by omega), if_neg (by simp), Int.toNat_natCast]
theorem synced_alive {d : Dk} (h : 0 < d.room) (f : Nat) (hf : f < 2) : syncedP d f = (d.get f).safe := by
  unfold syncedP
  rw [if_neg (by omega), Int.toNat_natCast]
theorem ok_off {d : Dk} (h : DOk d) : DOk (offP d).1 := by
  unfold offP; split
  · exact h
  · exact ⟨h.room, h.s0, h.s1, h.full, h.ops, h.arm⟩
end Go.Proofs.YtfjmmebjfllciaaDoor
