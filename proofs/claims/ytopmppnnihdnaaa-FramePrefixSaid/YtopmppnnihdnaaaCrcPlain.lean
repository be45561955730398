/- CRC on words of 32 bits: the plain mathematics; no program in sight. -/
namespace Go.Proofs.Ytopmppnnihdnaaa.CrcP
set_option linter.unusedVariables false
set_option linter.unusedSimpArgs false
abbrev W := BitVec 32
def poly : W := 0x04c11db7#32
def step1 (n : W) : W := if n.msb then (n <<< 1) ^^^ poly else n <<< 1

theorem step1_xor (a b : W) : step1 (a ^^^ b) = step1 a ^^^ step1 b := by
  unfold step1
  rw [BitVec.msb_xor, BitVec.shiftLeft_xor_distrib]
  cases a.msb <;> cases b.msb <;> simp
  · ac_rfl
  · ac_rfl
  · rw [show (a <<< 1 ^^^ poly ^^^ (b <<< 1 ^^^ poly)) = (a <<< 1 ^^^ b <<< 1) ^^^ (poly ^^^ poly) by ac_rfl]; simp

theorem step1_zero : step1 0#32 = 0#32 := by decide

def inv1 (n : W) : W := if n.getLsbD 0 then ((n ^^^ poly) >>> 1) ||| 0x80000000#32 else n >>> 1

theorem inv1_step1 (n : W) : inv1 (step1 n) = n := by
  unfold step1 inv1
  have hm : n.msb = n.getLsbD 31 := by simp [BitVec.msb_eq_getLsbD_last]
  cases h : n.msb
  · simp
    apply BitVec.eq_of_getLsbD_eq
    intro i hi
    by_cases h31 : i = 31
    · subst h31; rw [← hm, h]; simp
    · simp; intro hh; omega
  · have : poly.getLsbD 0 = true := by decide
    simp [this]
    rw [BitVec.xor_assoc, BitVec.xor_self, BitVec.xor_zero]
    apply BitVec.eq_of_getLsbD_eq
    intro i hi
    by_cases h31 : i = 31
    · subst h31; rw [← hm, h]; simp
    · have : (0x80000000#32).getLsbD i = false := by
        have : ∀ j : Fin 32, j.val ≠ 31 → (0x80000000#32).getLsbD j.val = false := by decide
        exact this ⟨i, hi⟩ h31
      simp [this]; intro hh; omega

theorem step1_inj {a b : W} (h : step1 a = step1 b) : a = b := by
  have := congrArg inv1 h
  rwa [inv1_step1, inv1_step1] at this

def stepN : Nat → W → W
  | 0, n => n
  | k + 1, n => stepN k (step1 n)

theorem stepN_xor (k : Nat) : ∀ a b, stepN k (a ^^^ b) = stepN k a ^^^ stepN k b := by
  induction k with
  | zero => intro a b; rfl
  | succ k ih => intro a b; simp only [stepN, step1_xor, ih]

theorem stepN_inj (k : Nat) : ∀ {a b : W}, stepN k a = stepN k b → a = b := by
  induction k with
  | zero => intro a b h; exact h
  | succ k ih => intro a b h; exact step1_inj (ih h)

theorem stepN_zero (k : Nat) : stepN k 0#32 = 0#32 := by
  induction k with
  | zero => rfl
  | succ k ih => simp only [stepN, step1_zero, ih]

theorem stepN_add (j k : Nat) : ∀ n, stepN (j + k) n = stepN k (stepN j n) := by
  induction j with
  | zero => intro n; simp [stepN]
  | succ j ih => intro n; rw [Nat.succ_add]; simp only [stepN, ih]

/-- eight steps -/
def byte (n : W) (b : UInt8) : W := stepN 8 (n ^^^ (BitVec.ofNat 32 b.toNat <<< 24))
def on (n : W) (l : List UInt8) : W := l.foldl byte n

theorem on_append (n : W) (a b : List UInt8) : on n (a ++ b) = on (on n a) b := by simp [on]

/-- four steps by a table -/
theorem step4_split (s : W) : stepN 4 s = (s <<< 4) ^^^ stepN 4 ((s >>> 28) <<< 28) := by
  have h : s = (s &&& 0x0fffffff#32) ^^^ ((s >>> 28) <<< 28) := by
    apply BitVec.eq_of_getLsbD_eq
    intro i hi
    have hb : (0x0fffffff#32).getLsbD i = decide (i < 28) := by
      have : ∀ j : Fin 32, (0x0fffffff#32).getLsbD j.val = decide (j.val < 28) := by decide
      exact this ⟨i, hi⟩
    simp [hb]
    by_cases h28 : i < 28
    · simp [h28]
    · simp [h28, hi]; congr 1; omega
  have h2 : ∀ k, k ≤ 4 → stepN k (s &&& 0x0fffffff#32) = (s &&& 0x0fffffff#32) <<< k := by
    intro k
    induction k with
    | zero => intro _; simp [stepN]
    | succ k ih =>
      intro hk
      rw [stepN_add k 1, ih (by omega)]
      have hm : ((s &&& 0x0fffffff#32) <<< k).msb = false := by
        have hb : (0x0fffffff#32).getLsbD (31 - k) = false := by
          have : ∀ j : Fin 4, (0x0fffffff#32).getLsbD (31 - j.val) = false := by decide
          exact this ⟨k, by omega⟩
        rw [BitVec.msb_eq_getLsbD_last]
        simp only [BitVec.getLsbD_shiftLeft, BitVec.getLsbD_and, hb, Bool.and_false]
      simp only [stepN, step1, hm]
      simp [← BitVec.shiftLeft_add]
  conv => lhs; rw [h]
  rw [stepN_xor, h2 4 (Nat.le_refl _)]
  congr 1
  apply BitVec.eq_of_getLsbD_eq
  intro i hi
  have hb : 4 ≤ i → (0x0fffffff#32).getLsbD (i - 4) = true := by
    intro h4
    have : ∀ j : Fin 28, (0x0fffffff#32).getLsbD j.val = true := by decide
    exact this ⟨i - 4, by omega⟩
  simp only [BitVec.getLsbD_shiftLeft, BitVec.getLsbD_and]
  by_cases h4 : i < 4
  · simp [h4]
  · simp [hb (by omega)]

theorem lo24 (u : W) : u ^^^ ((u >>> 24) <<< 24) = u &&& 0x00ffffff#32 := by
  apply BitVec.eq_of_getLsbD_eq
  intro i hi
  have hb : (0x00ffffff#32).getLsbD i = decide (i < 24) := by
    have : ∀ j : Fin 32, (0x00ffffff#32).getLsbD j.val = decide (j.val < 24) := by decide
    exact this ⟨i, hi⟩
  simp [hb]
  by_cases h : i < 24
  · simp [h]
  · simp [h, hi, show 24 + (i - 24) = i by omega]

theorem stepN_lo (m : W) (k : Nat) (h : ∀ j, j < k → m.getLsbD (31 - j) = false) : k ≤ 32 → ∀ j, j ≤ k → stepN j m = m <<< j := by
  intro hk j
  induction j with
  | zero => intro _; simp [stepN]
  | succ j ih =>
    intro hj
    rw [stepN_add j 1, ih (by omega)]
    have hm : (m <<< j).msb = false := by
      rw [BitVec.msb_eq_getLsbD_last]
      simp only [BitVec.getLsbD_shiftLeft, h j (by omega), Bool.and_false]
    simp only [stepN, step1, hm]
    simp [← BitVec.shiftLeft_add]

theorem step8_lo (u : W) : stepN 8 (u ^^^ ((u >>> 24) <<< 24)) = u <<< 8 := by
  rw [lo24]
  rw [stepN_lo _ 8 ?_ (by omega) 8 (Nat.le_refl _)]
  · apply BitVec.eq_of_getLsbD_eq
    intro i hi
    simp only [BitVec.getLsbD_shiftLeft, BitVec.getLsbD_and]
    by_cases h8 : i < 8
    · simp [h8]
    · have hb : (0x00ffffff#32).getLsbD (i - 8) = true := by
        have : ∀ j : Fin 24, (0x00ffffff#32).getLsbD j.val = true := by decide
        exact this ⟨i - 8, by omega⟩
      simp [hb]
  · intro j hj
    have : ∀ j : Fin 8, (0x00ffffff#32).getLsbD (31 - j.val) = false := by decide
    simp only [BitVec.getLsbD_and, this ⟨j, hj⟩, Bool.and_false]

/-- a sum's four bytes -/
def be4 (t : W) : List UInt8 := [UInt8.ofNat (t.toNat / 16777216), UInt8.ofNat (t.toNat / 65536), UInt8.ofNat (t.toNat / 256), UInt8.ofNat t.toNat]

theorem xor_swap (a b c : W) : a ^^^ b ^^^ c = a ^^^ c ^^^ b := by rw [BitVec.xor_assoc, BitVec.xor_comm b c, ← BitVec.xor_assoc]
theorem ofNat_xor (a b : Nat) : BitVec.ofNat 32 (a ^^^ b) = BitVec.ofNat 32 a ^^^ BitVec.ofNat 32 b := by
  apply BitVec.eq_of_getLsbD_eq
  intro i hi
  simp only [BitVec.getLsbD_xor, BitVec.getLsbD_ofNat, Nat.testBit_xor, hi, decide_true, Bool.true_and]

theorem byte_affine (n d : W) (b : UInt8) : byte (n ^^^ d) b = byte n b ^^^ stepN 8 d := by
  unfold byte
  rw [← stepN_xor, xor_swap]

theorem on_affine (l : List UInt8) : ∀ n d, on (n ^^^ d) l = on n l ^^^ stepN (8 * l.length) d := by
  induction l with
  | nil => intro n d; rfl
  | cons b l ih =>
    intro n d
    show on (byte (n ^^^ d) b) l = on (byte n b) l ^^^ _
    rw [byte_affine, ih, ← stepN_add]
    congr 2
    simp; omega

theorem byte_of (t : W) (k : Nat) : BitVec.ofNat 32 (UInt8.ofNat (t.toNat / 2 ^ k)).toNat <<< 24 = (t >>> k) <<< 24 := by
  apply BitVec.eq_of_getLsbD_eq
  intro i hi
  simp only [BitVec.getLsbD_shiftLeft, hi, decide_true, Bool.true_and]
  by_cases h : i < 24
  · simp [h]
  · simp only [h, decide_false, Bool.not_false, Bool.true_and]
    rw [BitVec.getLsbD_ofNat, BitVec.getLsbD_ushiftRight]
    have e : (UInt8.ofNat (t.toNat / 2 ^ k)).toNat = (t.toNat >>> k) % 2 ^ 8 := by
      rw [UInt8.toNat_ofNat', Nat.shiftRight_eq_div_pow]
    rw [e, Nat.testBit_mod_two_pow, Nat.testBit_shiftRight]
    simp [show i - 24 < 32 by omega, show i - 24 < 8 by omega, BitVec.getLsbD]

theorem on_zero_be4 (t : W) : on 0#32 (be4 t) = stepN 32 t := by
  have e3 := byte_of t 24
  have e2 := byte_of t 16
  have e1 := byte_of t 8
  have e0 := byte_of t 0
  simp only [Nat.reducePow, Nat.div_one] at e3 e2 e1 e0
  unfold on be4
  simp only [List.foldl_cons, List.foldl_nil]
  unfold byte
  rw [e3, e2, e1, e0, BitVec.zero_xor]
  have a1 : stepN 8 ((t >>> 24) <<< 24) = stepN 8 t ^^^ (t <<< 8) := by
    have := step8_lo t
    rw [stepN_xor] at this
    rw [← this, ← BitVec.xor_assoc, BitVec.xor_self, BitVec.zero_xor]
  have sh : ∀ k : Nat, k ≤ 24 → (t >>> (24 - k)) <<< 24 = ((t <<< k) >>> 24) <<< 24 := by
    intro k hk
    apply BitVec.eq_of_getLsbD_eq
    intro i hi
    simp only [BitVec.getLsbD_shiftLeft, BitVec.getLsbD_ushiftRight, hi, decide_true, Bool.true_and]
    by_cases h : i < 24
    · simp [h]
    · simp [show 24 + (i - 24) = i by omega, show 24 - k + (i - 24) = i - k by omega, h, hi]; intro _; omega
  have st : ∀ (r : W) (k : Nat), k ≤ 24 → stepN 8 ((r ^^^ (t <<< k)) ^^^ (t >>> (24 - k)) <<< 24) = stepN 8 r ^^^ (t <<< (k + 8)) := by
    intro r k hk
    rw [sh k hk, BitVec.xor_assoc, stepN_xor, step8_lo, ← BitVec.shiftLeft_add]
  rw [a1]
  have s1 := st (stepN 8 t) 8 (by omega)
  simp only [Nat.reduceSub, Nat.reduceAdd] at s1
  rw [s1, ← stepN_add]
  have s2 := st (stepN (8 + 8) t) 16 (by omega)
  simp only [Nat.reduceSub, Nat.reduceAdd] at s2
  rw [s2, ← stepN_add]
  have s3 := st (stepN (8 + 8 + 8) t) 24 (by omega)
  simp only [Nat.reduceSub, Nat.reduceAdd] at s3
  rw [s3, ← stepN_add]
  simp

theorem on_be4 (s t : W) : on s (be4 t) = stepN 32 (s ^^^ t) := by
  have := on_affine (be4 t) 0#32 s
  rw [BitVec.zero_xor] at this
  rw [this, on_zero_be4, stepN_xor]
  simp [be4, BitVec.xor_comm]

/-- a seal is right just if the whole sum is nought -/
theorem on_four_iff (s : W) (l : List UInt8) (hl : l.length = 4) : on s l = 0#32 ↔ l = be4 s := by
  constructor
  · intro h
    obtain ⟨a, b, c, d, rfl⟩ : ∃ a b c d, l = [a, b, c, d] := by
      match l, hl with
      | [a, b, c, d], _ => exact ⟨a, b, c, d, rfl⟩
    have e : [a, b, c, d] = be4 (BitVec.ofNat 32 (a.toNat * 16777216 + b.toNat * 65536 + c.toNat * 256 + d.toNat)) := by
      have ha := a.toNat_lt; have hb := b.toNat_lt; have hc := c.toNat_lt; have hd := d.toNat_lt
      unfold be4
      rw [BitVec.toNat_ofNat, Nat.mod_eq_of_lt (by omega)]
      simp only [List.cons.injEq, and_true]
      refine ⟨?_, ?_, ?_, ?_⟩ <;> apply UInt8.toNat_inj.1 <;> rw [UInt8.toNat_ofNat'] <;> omega
    rw [e] at h ⊢
    rw [on_be4] at h
    have := stepN_inj 32 (h.trans (stepN_zero 32).symm)
    rw [BitVec.xor_eq_zero_iff.1 this]
  · rintro rfl
    rw [on_be4, BitVec.xor_self, stepN_zero]

/-! a change -/
theorem on_set (n : W) (pre post : List UInt8) (x y : UInt8) :
    on n (pre ++ (x ^^^ y) :: post) = on n (pre ++ x :: post) ^^^ stepN (8 * (post.length + 1)) (BitVec.ofNat 32 y.toNat <<< 24) := by
  rw [on_append, on_append]
  show on (byte (on n pre) (x ^^^ y)) post = on (byte (on n pre) x) post ^^^ _
  have e : byte (on n pre) (x ^^^ y) = byte (on n pre) x ^^^ stepN 8 (BitVec.ofNat 32 y.toNat <<< 24) := by
    unfold byte
    rw [← stepN_xor]
    congr 1
    rw [UInt8.toNat_xor, BitVec.xor_assoc, ofNat_xor, BitVec.shiftLeft_xor_distrib]
  rw [e, on_affine, ← stepN_add]
  congr 2
  omega

/-- the bit at place j, counted from the highest -/
def hb (j : Nat) : W := (0x80000000#32) >>> j

theorem step_hb (j : Nat) (hj : j < 32) : ∀ k, k ≤ j → stepN k (hb j) = hb (j - k) := by
  intro k hk
  have : stepN k (hb j) = hb j <<< k := by
    refine stepN_lo (hb j) j ?_ (by omega) k hk
    intro i hi
    unfold hb
    have : ∀ j i : Fin 32, i.val < j.val → ((0x80000000#32) >>> j.val).getLsbD (31 - i.val) = false := by decide +kernel
    exact this ⟨j, hj⟩ ⟨i, by omega⟩ hi
  rw [this]
  unfold hb
  have : ∀ j k : Fin 32, k.val ≤ j.val → ((0x80000000#32) >>> j.val) <<< k.val = (0x80000000#32) >>> (j.val - k.val) := by decide +kernel
  exact this ⟨j, hj⟩ ⟨k, by omega⟩ hk

/-- the first i bits of a pattern -/
def top (p : W) : Nat → W
  | 0 => 0#32
  | i + 1 => if p.getLsbD (31 - i) then top p i ^^^ hb i else top p i

theorem top_bit (p : W) (i : Nat) (hi : i ≤ 32) : ∀ j, j < 32 → (top p i).getLsbD j = (decide (32 - i ≤ j) && p.getLsbD j) := by
  induction i with
  | zero => intro j hj; simp [top]; omega
  | succ i ih =>
    intro j hj
    have hh : (hb i).getLsbD j = decide (j = 31 - i) := by
      unfold hb
      have : ∀ i j : Fin 32, ((0x80000000#32) >>> i.val).getLsbD j.val = decide (j.val = 31 - i.val) := by decide +kernel
      exact this ⟨i, by omega⟩ ⟨j, hj⟩
    have ih' := ih (by omega) j hj
    simp only [top]
    by_cases hp : p.getLsbD (31 - i) = true
    · rw [if_pos hp, BitVec.getLsbD_xor, ih', hh]
      by_cases e : j = 31 - i
      · subst e; simp [hp]; omega
      · simp [e, show (32 - i ≤ j) = (32 - (i + 1) ≤ j) by apply propext; omega]
    · rw [if_neg hp, ih']
      by_cases e : j = 31 - i
      · subst e; simp [hp]
      · simp [show (32 - i ≤ j) = (32 - (i + 1) ≤ j) by apply propext; omega]

theorem top_all (p : W) : top p 32 = p := by
  apply BitVec.eq_of_getLsbD_eq
  intro j hj
  rw [top_bit p 32 (Nat.le_refl _) j hj]; simp
end Go.Proofs.Ytopmppnnihdnaaa.CrcP
