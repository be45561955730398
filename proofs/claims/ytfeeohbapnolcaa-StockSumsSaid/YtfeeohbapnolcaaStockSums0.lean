/- The stock: what all have. -/
import Derived.Test.YtfeeohbapnolcaaStockLaw
namespace Go.Proofs.Ytfeeohbapnolcaa
set_option linter.unusedVariables false
set_option linter.unusedSimpArgs false
open StockP
def tot (x : It) : Int := x.free + x.held + x.gone
def one (id : Int) (x : It) : Int := if x.id = id then tot x else 0
def wS (w : It → Int) : List It → Int
  | [] => 0
  | x :: l => w x + wS w l
theorem wS_app (w : It → Int) (l m : List It) : wS w (l ++ m) = wS w l + wS w m := by
  induction l with
  | nil => simp [wS]
  | cons x l ih => simp only [List.cons_append, wS, ih]; omega
theorem wS_ins (w : It → Int) (l : List It) (k : Nat) (x : It) : wS w (l.take k ++ [x] ++ l.drop k) = wS w l + w x := by
  have h := congrArg (wS w) (List.take_append_drop k l)
  rw [wS_app] at h
  rw [wS_app, wS_app]
  simp only [wS]
  omega
theorem wS_set (w : It → Int) (l : List It) (k : Nat) (x : It) (h : k < l.length) : wS w (l.set k x) = wS w l - w (l.getD k default) + w x := by
  induction l generalizing k with
  | nil => simp at h
  | cons y l ih =>
    cases k with
    | zero => simp only [List.set_cons_zero, wS, List.getD_cons_zero]; omega
    | succ k => simp only [List.set_cons_succ, wS, List.getD_cons_succ, ih k (by simpa using h)]; omega
theorem wS_take (w : It → Int) (l : List It) (k : Nat) (h : k < l.length) : wS w (l.take (k + 1)) = wS w (l.take k) + w (l.getD k default) := by
  rw [List.take_succ_eq_append_getElem h, wS_app, It_idx h]
  simp [wS]
theorem wS_bd (w : It → Int) (l : List It) (h : ∀ x, x ∈ l → 0 ≤ w x ∧ w x ≤ 1000000) : 0 ≤ wS w l ∧ wS w l ≤ 1000000 * (l.length : Int) := by
  induction l with
  | nil => simp [wS]
  | cons x l ih =>
    have h1 := h x List.mem_cons_self
    have h2 := ih (fun y hy => h y (List.mem_cons_of_mem _ hy))
    simp only [wS, List.length_cons]
    omega
theorem tot_bd {x : It} (h : may x = true) : 0 ≤ tot x ∧ tot x ≤ 1000000 := by
  have := may_iff.1 h
  unfold tot; omega
theorem one_bd {x : It} (id : Int) (h : may x = true) : 0 ≤ one id x ∧ one id x ≤ 1000000 := by
  have := tot_bd h
  unfold one; split <;> omega
theorem sums_bd {l : List It} (h : ok l = true) (id : Int) : (0 ≤ wS tot l ∧ wS tot l ≤ 20000000) ∧ (0 ≤ wS (one id) l ∧ wS (one id) l ≤ 20000000) := by
  have hl := ok_len h
  have h1 := wS_bd tot l (fun x hx => tot_bd (ok_may h x hx))
  have h2 := wS_bd (one id) l (fun x hx => one_bd id (ok_may h x hx))
  omega
theorem take_ok {l : List It} (h : ok l = true) (k : Nat) : ok (l.take k) = true := by
  have h1 := ok_len h
  have h2 := ok_from h
  unfold ok
  rw [decide_eq_true (by rw [List.length_take]; omega), Bool.true_and]
  clear h h1
  have : ∀ (l : List It) (p : Int) (k : Nat), okFrom p l = true → okFrom p (l.take k) = true := by
    intro l
    induction l with
    | nil => intro p k h; rw [List.take_nil]; exact h
    | cons y l ih =>
      intro p k h
      cases k with
      | zero => rfl
      | succ k =>
        rw [List.take_succ_cons]
        simp only [okFrom, Bool.and_eq_true] at h ⊢
        exact ⟨h.1, ih _ _ h.2⟩
  exact this l 0 k h2
/-- what becomes of the sums -/
structure Sums (l r : List It) (id x y : Int) : Prop where
  all : wS tot r = wS tot l + x
  its : wS (one id) r = wS (one id) l + y
  ok : ok r = true
theorem with_sums {g : It → It × Int} {l : List It} {id q : Int} (a δ : Int) (h : (withP g l id q).2 = 0) (hg : ∀ x, may x = true → 1 ≤ q → q ≤ 1000000 → (g x).2 = 0 → may (g x).1 = true ∧ (g x).1.id = x.id ∧ tot (g x).1 = tot x + δ) :
    (1 ≤ q ∧ q ≤ 1000000) ∧ Sums l (withP g l id q).1 a δ (if id = a then δ else 0) := by
  have hk := with_keeps h (fun x h1 h2 h3 h4 => ⟨(hg x h1 h2 h3 h4).1, (hg x h1 h2 h3 h4).2.1⟩)
  obtain ⟨ha, hf, h0, _, hr, _⟩ := hk
  have hq := (askedB_ok ha).2
  have hi := found_idx.1 hf
  have hfy := find_yes hi
  have hpos := idx_pos hi
  have hfid := found_id hf
  have hfm := found_may ha hf
  rw [hfy] at h0 hfid hfm
  dsimp only at h0 hfid hfm
  have hw := with_good (g := g) ha hi h0
  have hlt : (idx (fun x => x.id == id) l).toNat < l.length := by omega
  have hgx := hg _ hfm hq.1 hq.2 h0
  refine ⟨hq, ?_, ?_, (askedB_ok hr).1⟩
  · rw [hw, wS_set _ _ _ _ hlt, hgx.2.2]; omega
  · rw [hw, wS_set _ _ _ _ hlt]
    have e1 : one a (g (l.getD (idx (fun x => x.id == id) l).toNat default)).1 = one a (l.getD (idx (fun x => x.id == id) l).toNat default) + (if id = a then δ else 0) := by
      unfold one
      rw [hgx.2.1, hgx.2.2, hfid]
      split <;> omega
    rw [e1]; omega
theorem with_nil {g : It → It × Int} {l : List It} {id q : Int} (h : (withP g l id q).2 ≠ 0) : (withP g l id q).1 = [] := by
  unfold withP at h ⊢
  split
  · split
    · split
      · rename_i h1 h2 h3
        rw [if_pos h1, dif_pos h2, if_pos h3] at h
        exact absurd rfl h
      · rfl
    · rfl
  · rfl
theorem lentE_zero {b c : Int} (h : lentE b c = 0) : 0 ≤ b ∧ 0 ≤ c := by
  unfold lentE at h
  split at h
  · cases h
  · omega
theorem hold_g (q : Int) (x : It) (hm : may x = true) (_ : 1 ≤ q) (_ : q ≤ 1000000) (h : (holdG q x).2 = 0) : may (holdG q x).1 = true ∧ (holdG q x).1.id = x.id ∧ tot (holdG q x).1 = tot x + 0 := by
  have h1 := lentE_zero (show lentE (x.free - q) (x.held + q) = 0 from h)
  have h2 := may_iff.1 hm
  exact ⟨may_iff.2 (by dsimp only [holdG]; omega), rfl, by unfold tot; dsimp only [holdG]; omega⟩
theorem free_g (q : Int) (x : It) (hm : may x = true) (_ : 1 ≤ q) (_ : q ≤ 1000000) (h : (freeG q x).2 = 0) : may (freeG q x).1 = true ∧ (freeG q x).1.id = x.id ∧ tot (freeG q x).1 = tot x + 0 := by
  have h1 := lentE_zero (show lentE (x.free + q) (x.held - q) = 0 from h)
  have h2 := may_iff.1 hm
  exact ⟨may_iff.2 (by dsimp only [freeG]; omega), rfl, by unfold tot; dsimp only [freeG]; omega⟩
theorem ship_g (q : Int) (x : It) (hm : may x = true) (_ : 1 ≤ q) (_ : q ≤ 1000000) (h : (shipG q x).2 = 0) : may (shipG q x).1 = true ∧ (shipG q x).1.id = x.id ∧ tot (shipG q x).1 = tot x + 0 := by
  have h1 := lentE_zero (show lentE x.free (x.held - q) = 0 from h)
  have h2 := may_iff.1 hm
  exact ⟨may_iff.2 (by dsimp only [shipG]; omega), rfl, by unfold tot; dsimp only [shipG]; omega⟩
theorem out_g (q : Int) (x : It) (hm : may x = true) (_ : 1 ≤ q) (_ : q ≤ 1000000) (h : (outG q x).2 = 0) : may (outG q x).1 = true ∧ (outG q x).1.id = x.id ∧ tot (outG q x).1 = tot x + -q := by
  have h1 := lentE_zero (show lentE (x.free - q) x.held = 0 from h)
  have h2 := may_iff.1 hm
  exact ⟨may_iff.2 (by dsimp only [outG]; omega), rfl, by unfold tot; dsimp only [outG]; omega⟩
theorem in_g (q : Int) (x : It) (_ : may x = true) (_ : 1 ≤ q) (_ : q ≤ 1000000) (h : (inG q x).2 = 0) : may (inG q x).1 = true ∧ (inG q x).1.id = x.id ∧ tot (inG q x).1 = tot x + q := by
  unfold inG at h ⊢
  split
  · rename_i h1; exact ⟨h1, rfl, by unfold tot; dsimp only; omega⟩
  · rename_i h1; rw [if_neg h1] at h; cases h
theorem put_ok {x : It} (hm : may x = true) : ∀ (l : List It) (p : Int), okFrom p l = true → p < x.id → (∀ y, y ∈ l → y.id ≠ x.id) → okFrom p (put l x) = true := by
  intro l
  induction l with
  | nil => intro p _ hp _; show okFrom p [x] = true; simp [okFrom, hm, hp]
  | cons y l ih =>
    intro p h hp hne
    have hlt := okFrom_lt (p := p) h
    simp only [okFrom, Bool.and_eq_true, decide_eq_true_eq] at h
    have hy := hne y List.mem_cons_self
    by_cases e : y.id < x.id
    · have e1 : put (y :: l) x = y :: put l x := by
        unfold put
        rw [List.takeWhile_cons_of_pos (by simpa using e), List.filter_cons_of_neg (by simp; omega)]; rfl
      rw [e1]
      simp only [okFrom, Bool.and_eq_true, decide_eq_true_eq]
      exact ⟨h.1, ih _ h.2 e (fun z hz => hne z (List.mem_cons_of_mem _ hz))⟩
    · have e1 : put (y :: l) x = x :: y :: l := by
        unfold put
        have hl2 := okFrom_lt h.2
        rw [List.takeWhile_cons_of_neg (by simpa using e), List.filter_eq_self.2 (by
          intro z hz
          rcases List.mem_cons.1 hz with rfl | hz
          · simp; omega
          · have := hl2 z hz; simp; omega)]; rfl
      rw [e1]
      simp only [okFrom, Bool.and_eq_true, decide_eq_true_eq]
      exact ⟨⟨hm, hp⟩, ⟨h.1.1, by omega⟩, h.2⟩
theorem create_sums {l : List It} {id q : Int} (h : (createP l id q).2 = 0) : (0 ≤ q ∧ q ≤ 1000000) ∧ Sums l (createP l id q).1 id q q := by
  unfold createP at h ⊢
  split at h
  · rename_i h1
    split at h
    · cases h
    · rename_i h2
      split at h
      · cases h
      · rename_i h3
        rw [if_pos h1, if_neg h2, if_neg h3]
        have hok := okE_ok.1 h1.1
        have hm := may_iff.1 h1.2
        have hf : (findT l id).2 = false := by rw [find_no (by omega)]
        have hne := find_none_ids hf
        refine ⟨by dsimp only at hm; omega, ?_, ?_, ?_⟩
        · show wS tot (insP l ⟨id, q, 0, 0⟩) = _
          unfold insP; split <;> rw [wS_ins] <;> simp [tot]
        · show wS (one id) (insP l ⟨id, q, 0, 0⟩) = _
          unfold insP; split <;> rw [wS_ins] <;> simp [one, tot]
        · show ok (insP l ⟨id, q, 0, 0⟩) = true
          have hlen : (insP l ⟨id, q, 0, 0⟩).length ≤ 20 := by
            unfold insP; split <;> simp <;> omega
          unfold ok
          rw [decide_eq_true hlen, Bool.true_and, insP_put hok _ hne]
          exact put_ok h1.2 l 0 (ok_from hok) (by dsimp only at hm ⊢; omega) hne
  · cases h
theorem create_nil {l : List It} {id q : Int} (h : (createP l id q).2 ≠ 0) : (createP l id q).1 = [] := by
  unfold createP at h ⊢
  split
  · rename_i h1
    split
    · rfl
    · rename_i h2
      split
      · rfl
      · rename_i h3
        rw [if_pos h1, if_neg h2, if_neg h3] at h
        exact absurd rfl h
  · rfl
theorem move_sums {l : List It} {a b q : Int} (h : (moveP l a b q).2 = 0) : (1 ≤ q ∧ q ≤ 1000000) ∧ Sums l (moveP l a b q).1 a 0 (-q) := by
  unfold moveP at h ⊢
  split at h
  · rename_i h1
    split at h
    · cases h
    · rename_i h2
      split at h
      · rename_i h3
        rw [if_pos h1, if_neg h2, if_pos h3]
        obtain ⟨hq, s1⟩ := with_sums a (-q) h3 (out_g q)
        obtain ⟨_, s2⟩ := with_sums a q h (in_g q)
        rw [if_pos rfl] at s1
        rw [if_neg (fun e => h1.2 e.symm)] at s2
        refine ⟨hq, ?_, ?_, s2.ok⟩
        · rw [s2.all, s1.all]; omega
        · rw [s2.its, s1.its]; omega
      · rename_i h3; exact absurd h h3
  · cases h
theorem move_nil {l : List It} {a b q : Int} (h : (moveP l a b q).2 ≠ 0) : (moveP l a b q).1 = [] := by
  unfold moveP at h ⊢
  split
  · rename_i h1
    split
    · rfl
    · rename_i h2
      split
      · rename_i h3
        rw [if_pos h1, if_neg h2, if_pos h3] at h
        exact with_nil h
      · rfl
  · rfl
/-- the six -/
def mS (l : List It) (i j q : Int) : Nat → List It × Int
  | 0 => withP (holdG q) l i q
  | 1 => withP (freeG q) l i q
  | 2 => withP (shipG q) l i q
  | 3 => moveP l i j q
  | 4 => createP l i q
  | _ => withP (inG q) l i q
def mL (l : List It) (i j q : Int) : List AV := (List.range 6).map fun k => .sl ((mS l i j q k).1.map aIt)
def eL (l : List It) (i j q : Int) : List AV := (List.range 6).map fun k => .int .i64 (mS l i j q k).2
theorem mL_get (l : List It) (i j q : Int) (k : Nat) (h : k < 6) : (mL l i j q)[0 + k * 1]? = some (.sl ((mS l i j q k).1.map aIt)) := by
  unfold mL
  rw [Nat.zero_add, Nat.mul_one, List.getElem?_map, List.getElem?_range h]; rfl
theorem eL_get (l : List It) (i j q : Int) (k : Nat) (h : k < 6) : (eL l i j q)[0 + k * 1]? = some (.int .i64 (mS l i j q k).2) := by
  unfold eL
  rw [Nat.zero_add, Nat.mul_one, List.getElem?_map, List.getElem?_range h]; rfl
theorem mS_nil {l : List It} {i j q : Int} {k : Nat} (h : (mS l i j q k).2 ≠ 0) : (mS l i j q k).1 = [] := by
  unfold mS at h ⊢
  split at h
  · exact with_nil h
  · exact with_nil h
  · exact with_nil h
  · exact move_nil h
  · exact create_nil h
  · exact with_nil h
theorem mS_sums {l : List It} {i j q : Int} {k : Nat} (hk : k < 6) (h : (mS l i j q k).2 = 0) :
    (0 ≤ q ∧ q ≤ 1000000) ∧ Sums l (mS l i j q k).1 i (if 3 < k then q else 0) (if 3 < k then q else if k = 3 then -q else 0) := by
  rcases (show k = 0 ∨ k = 1 ∨ k = 2 ∨ k = 3 ∨ k = 4 ∨ k = 5 by omega) with rfl | rfl | rfl | rfl | rfl | rfl
  · obtain ⟨h1, h2⟩ := with_sums i 0 h (hold_g q); rw [if_pos rfl] at h2; exact ⟨by omega, h2⟩
  · obtain ⟨h1, h2⟩ := with_sums i 0 h (free_g q); rw [if_pos rfl] at h2; exact ⟨by omega, h2⟩
  · obtain ⟨h1, h2⟩ := with_sums i 0 h (ship_g q); rw [if_pos rfl] at h2; exact ⟨by omega, h2⟩
  · obtain ⟨h1, h2⟩ := move_sums h; exact ⟨by omega, h2⟩
  · obtain ⟨h1, h2⟩ := create_sums h; exact ⟨by omega, h2⟩
  · obtain ⟨h1, h2⟩ := with_sums i q h (in_g q); rw [if_pos rfl] at h2; exact ⟨by omega, h2⟩
theorem mS_len (l : List It) (i j q : Int) (k : Nat) : (mS l i j q k).1.length ≤ l.length + 1 := by
  have b1 := create_len l i q
  have b2 := with_len (inG q) l i q
  have b3 := with_len (holdG q) l i q
  have b4 := with_len (freeG q) l i q
  have b5 := with_len (shipG q) l i q
  have b6 := move_len l i j q
  unfold mS; split <;> omega
end Go.Proofs.Ytfeeohbapnolcaa
