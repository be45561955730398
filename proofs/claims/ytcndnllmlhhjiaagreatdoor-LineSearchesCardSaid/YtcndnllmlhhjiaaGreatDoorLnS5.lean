/- The texts that the law LineSearches rests on, part 5: ServPlain, AmTextR, AmClR, AmServ, ServLaw, AmServL, AmMap, LinePlain, AmFn. -/
import Derived.Test.YtcndnllmlhhjiaaGreatDoorLnS4
import Derived.MapKept
import Derived.ChangeMaps4
import Derived.Deep.OwnRows
open Go.Proofs.Tryz renaming underlying3 → U3, underlying9 → U9, underlying22 → U22, underlying23 → U23, underlying25 → U25, underlying27 → U27, underlying36 → U36, underlying40 → U40, underlying82 → U82, underlying84 → U84, underlying93 → U93, underlying96 → U96, underlying108 → U108, underlying119 → U119, underlying120 → U120, underlying127 → U127, underlying207 → U207
set_option linter.unusedVariables false
set_option linter.unusedSimpArgs false
set_option maxRecDepth 100000
set_option maxHeartbeats 1000000
namespace Go.Proofs.YtcndnllmlhhjiaaGreatDoor
open NumP
abbrev Its := List StockP.It
abbrev Ses := List SessP.Se
abbrev St := Its × Ses
abbrev tF (l : Its) (id : Int) : StockP.It := (StockP.findT l id).1
def numsP (l : Its) (id : Int) : List Int := [(tF l id).free, (tF l id).held, (tF l id).gone]
def oneP (l : Its) (c : Cl) : Its × Int :=
 if c.kind = 1 then Stk.createP l c.item c.qty else if c.kind = 2 then StockP.withP (StockP.inG c.qty) l c.item c.qty else
 if c.kind = 3 then StockP.withP (StockP.holdG c.qty) l c.item c.qty else if c.kind = 4 then StockP.withP (StockP.freeG c.qty) l c.item c.qty else StockP.withP (StockP.shipG c.qty) l c.item c.qty
def oneR (l : Its) (c : Cl) : Its × Rp := if (oneP l c).2 = 0 then ((oneP l c).1, ⟨0, numsP (oneP l c).1 c.item⟩) else (l, ⟨(oneP l c).2, []⟩)
abbrev mvP (l : Its) (c : Cl) : Its × Int := Stk.moveP l c.item c.to_ c.qty
def moveR (l : Its) (c : Cl) : Its × Rp := if (mvP l c).2 = 0 then ((mvP l c).1, ⟨0, [(tF (mvP l c).1 c.item).free, (tF (mvP l c).1 c.to_).free]⟩) else (l, ⟨(mvP l c).2, []⟩)
def queryR (l : Its) (c : Cl) : Its × Rp := if (StockP.findT l c.item).2 = true then (l, ⟨0, numsP l c.item⟩) else (l, ⟨40, []⟩)
abbrev orP (l : Its) (c : Cl) : Its × Int × Int := StockP.allP Stk.holdF l c.lines
def orderR (l : Its) (c : Cl) : Its × Rp := if (orP l c).2.2 = 0 then ((orP l c).1, ⟨0, [StockP.totalP c.lines]⟩) else (l, ⟨(orP l c).2.2, [(orP l c).2.1]⟩)
def kindR (l : Its) (c : Cl) : Its × Rp := if c.kind = 6 then moveR l c else if c.kind = 7 then queryR l c else if c.kind = 8 then orderR l c else oneR l c
def doP (l : Its) (c : Cl) : Its × Rp := if Stk.okE l = 0 then (if checkP c = 0 then kindR l c else (l, ⟨checkP c, []⟩)) else (l, ⟨2, []⟩)
def chkP (s : St) : Int := if Stk.okE s.1 = 0 ∧ SessP.okE s.2 = 0 then 0 else 2
abbrev asP (s : St) (p : ByteArray) : ByteArray × Bool × Int := Ssn.askP s.2 (takeC p).client (takeC p).seq
abbrev nwP (s : St) (p : ByteArray) : SessP.Se := ⟨(takeC p).client, (takeC p).seq, putR (doP s.1 (takeC p)).2⟩
abbrev ntP (s : St) (p : ByteArray) : Ses × Int := Ssn.noteP s.2 (nwP s p)
def applyP (s : St) (p : ByteArray) : St × ByteArray :=
 if chkP s = 0 then
   if takeE p = 0 then
     if (asP s p).2.2 = 0 then
       if (asP s p).2.1 = true then (s, (asP s p).1) else (((doP s.1 (takeC p)).1, (ntP s p).1), putR (doP s.1 (takeC p)).2)
     else (s, putR ⟨(asP s p).2.2, []⟩)
   else (s, putR ⟨takeE p, []⟩)
 else (s, putR ⟨2, []⟩)
def stepP (a : St × List ByteArray) (p : ByteArray) : St × List ByteArray := ((applyP a.1 p).1, a.2 ++ [(applyP a.1 p).2])
def foldP (s : St) (l : List ByteArray) : St × List ByteArray := l.foldl stepP (s, [])
/-! ### what it keeps -/
theorem ok_len {l : Its} (h : StockP.ok l = true) : l.length ≤ 20 := StockP.ok_len h
theorem find_bd {l : Its} (h : StockP.ok l = true) (id : Int) : (0 ≤ (tF l id).free ∧ (tF l id).free ≤ 1000000) ∧ (0 ≤ (tF l id).held ∧ (tF l id).held ≤ 1000000) ∧ (0 ≤ (tF l id).gone ∧ (tF l id).gone ≤ 1000000) := by
 unfold tF
 cases hf : (StockP.findT l id).2 with
 | false => rw [Stk.find_no2 hf]; exact ⟨by decide, by decide, by decide⟩
 | true =>
   have := StockP.may_bd (Stk.found_may (q := 1) (by unfold StockP.askedB; rw [h]; decide) hf)
   omega
theorem nums_fit {l : Its} (h : StockP.ok l = true) (id : Int) : ∀ x, x ∈ numsP l id → 0 ≤ x ∧ x ≤ 5000000 := by
 intro x hx
 have := find_bd h id
 simp only [numsP, List.mem_cons, List.not_mem_nil, or_false] at hx
 rcases hx with rfl | rfl | rfl <;> omega
theorem one_ok {l : Its} {c : Cl} (h : (oneP l c).2 = 0) : StockP.ok (oneP l c).1 = true := by
 unfold oneP at h ⊢
 by_cases h1 : c.kind = 1
 · rw [if_pos h1] at h ⊢; exact (Stk.create_sums h).2.ok
 rw [if_neg h1] at h ⊢
 by_cases h2 : c.kind = 2
 · rw [if_pos h2] at h ⊢; exact (Stk.with_sums 0 c.qty h (Stk.in_g c.qty)).2.ok
 rw [if_neg h2] at h ⊢
 by_cases h3 : c.kind = 3
 · rw [if_pos h3] at h ⊢; exact (Stk.with_sums 0 0 h (Stk.hold_g c.qty)).2.ok
 rw [if_neg h3] at h ⊢
 by_cases h4 : c.kind = 4
 · rw [if_pos h4] at h ⊢; exact (Stk.with_sums 0 0 h (Stk.free_g c.qty)).2.ok
 rw [if_neg h4] at h ⊢
 exact (Stk.with_sums 0 0 h (Stk.ship_g c.qty)).2.ok
theorem goes_ok (m : List Ln) : ∀ (i : Int) (l : Its), StockP.ok l = true → (StockP.goesP Stk.holdF i l m).2.2 = 0 → StockP.ok (StockP.goesP Stk.holdF i l m).1 = true := by
 induction m with
 | nil => intro i l h _; exact h
 | cons x m ih =>
   intro i l h h0
   rw [StockP.goesP_cons] at h0 ⊢
   by_cases e : (Stk.holdF l x.item x.qty).2 ≠ 0
   · rw [if_pos e] at h0; exact absurd h0 e
   · rw [if_neg e] at h0 ⊢
     exact ih _ _ (Stk.with_sums 0 0 (by simpa using e) (Stk.hold_g x.qty)).2.ok h0
theorem order_ok {l : Its} {c : Cl} (h : (orP l c).2.2 = 0) : StockP.ok (orP l c).1 = true := by
 unfold orP StockP.allP at h ⊢
 by_cases e : StockP.ok l = true ∧ StockP.okL c.lines = true
 · rw [if_pos e] at h ⊢; exact goes_ok _ _ _ e.1 h
 · rw [if_neg e] at h; simp at h
theorem kind_ok {l : Its} {c : Cl} (h : StockP.ok l = true) : StockP.ok (kindR l c).1 = true := by
 unfold kindR
 split
 · unfold moveR; split
   · rename_i h1; exact (Stk.move_sums h1).2.ok
   · exact h
 · split
   · unfold queryR; split <;> exact h
   · split
     · unfold orderR; split
       · rename_i h1; exact order_ok h1
       · exact h
     · unfold oneR; split
       · rename_i h1; exact one_ok h1
       · exact h
theorem do_ok {l : Its} {c : Cl} (h : StockP.ok l = true) : StockP.ok (doP l c).1 = true := by
 unfold doP; split
 · split
   · exact kind_ok h
   · exact h
 · exact h
/-! ### its answers -/
theorem with_rng {g : StockP.It → StockP.It × Int} {l : Its} {id q : Int} (hg : ∀ x, 0 ≤ (g x).2 ∧ (g x).2 ≤ 255) : 0 ≤ (StockP.withP g l id q).2 ∧ (StockP.withP g l id q).2 ≤ 255 := by
 unfold StockP.withP
 split
 · split
   · split
     · exact (by constructor <;> first | decide | (dsimp only; decide))
     · exact hg _
   · exact (by constructor <;> first | decide | (dsimp only; decide))
 · exact (by constructor <;> first | decide | (dsimp only; decide))
theorem lent_rng (b c : Int) : 0 ≤ StockP.lentE b c ∧ StockP.lentE b c ≤ 255 := by unfold StockP.lentE; split <;> omega
theorem in_rng (q : Int) (x : StockP.It) : 0 ≤ (StockP.inG q x).2 ∧ (StockP.inG q x).2 ≤ 255 := by unfold StockP.inG; split <;> exact (by constructor <;> first | decide | (dsimp only; decide))
theorem create_rng (l : Its) (i q : Int) : 0 ≤ (Stk.createP l i q).2 ∧ (Stk.createP l i q).2 ≤ 255 := by
 unfold Stk.createP; split
 · split
   · exact (by constructor <;> first | decide | (dsimp only; decide))
   · split <;> exact (by constructor <;> first | decide | (dsimp only; decide))
 · exact (by constructor <;> first | decide | (dsimp only; decide))
theorem move_rng (l : Its) (a b q : Int) : 0 ≤ (Stk.moveP l a b q).2 ∧ (Stk.moveP l a b q).2 ≤ 255 := by
 unfold Stk.moveP; split
 · split
   · exact (by constructor <;> first | decide | (dsimp only; decide))
   · split
     · exact with_rng (in_rng q)
     · exact with_rng (fun x => lent_rng _ _)
 · exact (by constructor <;> first | decide | (dsimp only; decide))
theorem one_rng (l : Its) (c : Cl) : 0 ≤ (oneP l c).2 ∧ (oneP l c).2 ≤ 255 := by
 unfold oneP
 split
 · exact create_rng _ _ _
 · split
   · exact with_rng (in_rng _)
   · split
     · exact with_rng (fun x => lent_rng _ _)
     · split
       · exact with_rng (fun x => lent_rng _ _)
       · exact with_rng (fun x => lent_rng _ _)
theorem goes_rng (m : List Ln) : ∀ (i : Int) (l : Its), 0 ≤ i → (0 ≤ (StockP.goesP Stk.holdF i l m).2.2 ∧ (StockP.goesP Stk.holdF i l m).2.2 ≤ 255) ∧ (0 ≤ (StockP.goesP Stk.holdF i l m).2.1 ∧ (StockP.goesP Stk.holdF i l m).2.1 ≤ i + m.length) := by
 induction m with
 | nil => intro i l h; exact ⟨⟨(show (0 : Int) ≤ 0 by decide), (show (0 : Int) ≤ 255 by decide)⟩, by show 0 ≤ i; omega, by show i ≤ _; simp⟩
 | cons x m ih =>
   intro i l h
   rw [StockP.goesP_cons]
   split
   · exact ⟨with_rng (fun x => lent_rng _ _), h, by simp only [List.length_cons]; omega⟩
   · have := ih (i + 1) (Stk.holdF l x.item x.qty).1 (by omega)
     rw [List.length_cons]; omega
theorem order_rng (l : Its) (c : Cl) : (0 ≤ (orP l c).2.2 ∧ (orP l c).2.2 ≤ 255) ∧ (0 ≤ (orP l c).2.1 ∧ (orP l c).2.1 ≤ 5) := by
 unfold orP StockP.allP
 split
 · rename_i h
   have := goes_rng c.lines 0 l (by omega)
   have h2 := Stk.okL_len h.2
   omega
 · exact ⟨(by constructor <;> first | decide | (dsimp only; decide)), (by constructor <;> first | decide | (dsimp only; decide))⟩
theorem total_bd (m : List Ln) : 0 ≤ StockP.totalP m ∧ StockP.totalP m ≤ 5000000 := by
 unfold StockP.totalP
 split
 · rename_i h
   have h1 := Stk.sumF_bd h m.length (Nat.le_refl _)
   rw [List.take_length] at h1
   have h2 := Stk.okL_len h
   omega
 · exact (by constructor <;> first | decide | (dsimp only; decide))
structure Fine (r : Rp) : Prop where
 code : 0 ≤ r.code ∧ r.code ≤ 255
 len : r.nums.length ≤ 3
 fit : ∀ x, x ∈ r.nums → 0 ≤ x ∧ x ≤ 5000000
theorem Fine.bare {e : Int} (h : 0 ≤ e ∧ e ≤ 255) : Fine ⟨e, []⟩ := ⟨h, Nat.zero_le _, fun x hx => by cases hx⟩
theorem Fine.one {e n : Int} (h : 0 ≤ e ∧ e ≤ 255) (hn : 0 ≤ n ∧ n ≤ 5000000) : Fine ⟨e, [n]⟩ := ⟨h, Nat.le_add_left 1 2, fun x hx => by simp at hx; subst hx; exact hn⟩
theorem Fine.rep {r : Rp} (h : Fine r) : repE r = 0 := by
 unfold repE
 rw [if_neg]
 have h1 := h.code
 have h2 := h.len
 have h3 : nneg r.nums = true := nneg_of fun x hx => (h.fit x hx).1
 rw [h3]; simp; omega
theorem Fine.num {r : Rp} (h : Fine r) : ∀ x, x ∈ r.nums → -9223372036854775808 ≤ x ∧ x ≤ 9223372036854775807 := fun x hx => by have := h.fit x hx; omega
theorem Fine.small {r : Rp} (h : Fine r) : (putR r).size ≤ 100 := by
 have he := h.rep
 have hl := h.len
 have hn : nneg r.nums = true := nneg_of fun x hx => (h.fit x hx).1
 unfold putR
 rw [if_pos he, layR_ok he]
 unfold WrS.out
 rw [if_pos rfl]
 show ((putN r.code).1 ++ (rowN r.nums).1).length ≤ 100
 rw [List.length_append]
 have h1 := putN_len r.code
 unfold rowN
 rw [if_pos hn]
 have h2 := putN_len (r.nums.length : Int)
 have h3 := rowBytes_len r.nums
 rw [List.length_append]; omega
theorem kind_fine {l : Its} {c : Cl} (h : StockP.ok l = true) : Fine (kindR l c).2 := by
 unfold kindR
 split
 · unfold moveR; split
   · rename_i h1
     have hk := (Stk.move_sums h1).2.ok
     refine ⟨(by constructor <;> first | decide | (dsimp only; decide)), Nat.le_succ _, fun x hx => ?_⟩
     have b1 := find_bd hk c.item
     have b2 := find_bd hk c.to_
     simp only [List.mem_cons, List.not_mem_nil, or_false] at hx
     rcases hx with rfl | rfl
     · exact ⟨b1.1.1, Int.le_trans b1.1.2 (by decide)⟩
     · exact ⟨b2.1.1, Int.le_trans b2.1.2 (by decide)⟩
   · exact .bare (move_rng _ _ _ _)
 · split
   · unfold queryR; split
     · exact ⟨(by constructor <;> first | decide | (dsimp only; decide)), Nat.le_refl _, nums_fit h _⟩
     · exact .bare (by constructor <;> first | decide | (dsimp only; decide))
   · split
     · unfold orderR; split
       · exact .one (by constructor <;> first | decide | (dsimp only; decide)) (total_bd _)
       · have := order_rng l c
         exact .one this.1 (by omega)
     · unfold oneR; split
       · rename_i h1
         exact ⟨(by constructor <;> first | decide | (dsimp only; decide)), Nat.le_refl _, nums_fit (one_ok h1) _⟩
       · exact .bare (one_rng _ _)
theorem check_rng (c : Cl) : 0 ≤ checkP c ∧ checkP c ≤ 255 := by rcases check_two c with h | h | h <;> rw [h] <;> exact (by constructor <;> first | decide | (dsimp only; decide))
theorem do_fine (l : Its) (c : Cl) : Fine (doP l c).2 := by
 unfold doP; split
 · rename_i h
   split
   · exact kind_fine (Stk.okE_ok.1 h)
   · exact .bare (check_rng c)
 · exact .bare (by constructor <;> first | decide | (dsimp only; decide))
theorem do_len (l : Its) (c : Cl) (hl : l.length ≤ 60) : (doP l c).1.length ≤ 60 := by
 by_cases h : Stk.okE l = 0
 · have := ok_len (do_ok (c := c) (Stk.okE_ok.1 h)); omega
 · unfold doP; rw [if_neg h]; exact hl
theorem note_zero {s : St} {p : ByteArray} (ht : takeE p = 0) (hp : p.size ≤ 1000000) (h : (asP s p).2.2 = 0) (h2 : (asP s p).2.1 = false) : (ntP s p).2 = 0 := by
 unfold ntP Ssn.noteP
 have hm : SessP.may (nwP s p) = true := by
   have ha := (Ssn.askP_ok h).2
   have hsz := (do_fine s.1 (takeC p)).small
   rw [Ssn.may_iff]
   have n1 := Ssn.numB_iff (takeC p).client
   have n2 := Ssn.numB_iff (takeC p).seq
   refine ⟨?_, ?_, ?_⟩
   · exact n1.1 ha.1
   · exact n2.1 ha.2
   · show ((putR (doP s.1 (takeC p)).2).size : Int) ≤ 300; omega
 rw [if_pos h, if_pos hm, if_neg (by rw [show (Ssn.askP s.2 (nwP s p).client (nwP s p).seq).2.1 = (asP s p).2.1 from rfl, h2]; simp)]
theorem ses_len {l : Ses} (h : SessP.okE l = 0) : l.length ≤ 20 := (Ssn.okE_ok h).1
theorem apply_len (s : St) (p : ByteArray) (hp : p.size ≤ 1000000) (h1 : s.1.length ≤ 60) (h2 : s.2.length ≤ 60) : (applyP s p).1.1.length ≤ 60 ∧ (applyP s p).1.2.length ≤ 60 := by
 unfold applyP
 split
 · split
   · rename_i ht
     split
     · rename_i ha
       split
       · exact ⟨h1, h2⟩
       · rename_i hg
         have := ses_len (Ssn.note_ok (note_zero ht hp ha (by simpa using hg)))
         exact ⟨do_len _ _ h1, Nat.le_trans this (by decide)⟩
     · exact ⟨h1, h2⟩
   · exact ⟨h1, h2⟩
 · exact ⟨h1, h2⟩
theorem fold_snoc (s : St) (l : List ByteArray) (x : ByteArray) : foldP s (l ++ [x]) = stepP (foldP s l) x := by unfold foldP; rw [List.foldl_append]; rfl
theorem fold_at (s : St) (l : List ByteArray) (k : Nat) (h : k < l.length) : foldP s (l.take (k + 1)) = stepP (foldP s (l.take k)) (l.getD k default) := by
 rw [List.take_succ_eq_append_getElem h, fold_snoc]; simp [List.getD, h]
theorem fold_len (s : St) (l : List ByteArray) (hl : ∀ x, x ∈ l → x.size ≤ 1000000) (h1 : s.1.length ≤ 60) (h2 : s.2.length ≤ 60) : ∀ k, k ≤ l.length → ((foldP s (l.take k)).1.1.length ≤ 60 ∧ (foldP s (l.take k)).1.2.length ≤ 60) ∧ (foldP s (l.take k)).2.length = k := by
 intro k
 induction k with
 | zero => intro _; exact ⟨⟨h1, h2⟩, rfl⟩
 | succ k ih =>
   intro hk
   obtain ⟨⟨i1, i2⟩, i3⟩ := ih (by omega)
   rw [fold_at s l k (by omega)]
   have hx : (l.getD k default).size ≤ 1000000 := by rw [show l.getD k default = l[k] from by simp [List.getD, show k < l.length by omega]]; exact hl _ (List.getElem_mem _)
   refine ⟨apply_len _ _ hx i1 i2, ?_⟩
   show ((foldP s (l.take k)).2 ++ [_]).length = k + 1
   rw [List.length_append, i3]; rfl
end Go.Proofs.YtcndnllmlhhjiaaGreatDoor
namespace Go.Proofs.YtcndnllmlhhjiaaGreatDoor
open Go.RowKit
open NumP
theorem moved_R (r : RdS) (p : ByteArray) (to e : Int) : FnP Tryz.prog 106 [aIn r, .str p, .int .i64 to, .int .i64 e] (aIn (r.moved p to e)) := by
 refine FnP.of Tryz.func106 rfl rfl (by simp) (by simp [AV.cells, aIn, aOut]) (fun G hG => ?_)
 have hN : NoH G.length (aIn (r.moved p to e)) := (by simp [AV.cells, aIn, aOut])
 refine sr fun _ => ?_
 refine ARun.box (j := 0) hG rfl rfl rfl rfl rfl (ep rfl) rfl rfl optN ?_
 refine ρo (j := 1) zv119 ?_
 refine ez ?_
 refine AWP.seq (sr fun _ => ?_)
 refine mv ?_
 refine ρ2 ?_
 refine ez ?_
 refine ρp (fun h0 => ?_) (fun h0 => ?_)
 · simp at h0
   refine sr fun _ => ?_
   refine mv ?_
   refine ρ6 (fo := 2) U119 sz9 ?_
   refine ρt sz9 ?_
   refine ez (sr fun _ => ?_)
   refine mv ?_
   refine ρ6 (fo := 3) U119 sz3 ?_
   refine ρt sz3 ?_
   refine ez (sr fun _ => ?_)
   refine ρn U119 sz119 ?_
   refine ρ1 sz119 ?_
   refine ez ?_
   refine AWP.ret (thenA_r ?_)
   refine endF.one (.inr rfl) rfl (.cellA rfl ((hG.at _ _).trans rfl) U119 rfl sz119 rfl rfl) ?_ hN
   rw [moved_pos h0]; rfl
 simp at h0
 refine AWP.skip (thenA_n (sr fun _ => ?_))
 refine mv ?_
 refine ρ6 (fo := 1) U119 sz3 ?_
 refine ρt sz3 ?_
 refine ez (sr fun _ => ?_)
 refine ρn U119 sz119 ?_
 refine ρ1 sz119 ?_
 refine ez ?_
 refine AWP.ret ?_
 refine endF.one (.inr rfl) rfl (.cellA rfl ((hG.at _ _).trans rfl) U119 rfl sz119 rfl rfl) ?_ hN
 rw [moved_neg h0]; rfl
theorem num_R (r : RdS) (most : Int) (h : r.ok) : FnP Tryz.prog 68 [aIn r, .int .i64 most] (.tup [aIn (rdNum r most).1, .int .i64 (rdNum r most).2]) := by
 refine FnP.of Tryz.func68 rfl rfl (by simp) (by simp [AV.cells, aIn, aOut]) (fun G hG => ?_)
 have hN : NoH G.length (.tup [aIn (rdNum r most).1, .int .i64 (rdNum r most).2]) := (by simp [AV.cells, aIn, aOut])
 refine sr fun _ => ?_
 refine ρz ?_
 refine ρo (j := 0) zv119 ?_
 refine mz ?_
 refine AWP.seq (sr fun _ => ?_)
 refine ρ4 U119 sz3 ?_
 refine ρ7 U3 ?_
 refine ρ2 ?_
 refine ez ?_
 refine ρp (fun h0 => ?_) (fun h0 => ?_)
 · have he : r.e ≠ 0 := by simpa using h0
   refine sr fun _ => ?_
   refine ρl U119 sz119 ?_
   refine ρ1 sz119 ?_
   refine mz ?_
   refine AWP.ret (thenA_r ?_)
   refine ρj (rs := [.cell 4 119, .tmp 5]) (.cons (.cellA rfl ((hG.at _ _).trans rfl) U119 rfl sz119 rfl rfl) (.cons (.tmp rfl) .nil)) ?_
   rw [rdNum, if_pos he]; rfl
 have he : r.e = 0 := by simpa using h0
 have hde : rdNum r most = (r.moved tNum (getN (bl r.s) r.at_).2.1 (numE r most), if numE r most ≠ 0 then 0 else (getN (bl r.s) r.at_).1) := by rw [rdNum, if_neg (by omega)]
 refine AWP.skip (thenA_n (sr fun _ => ?_))
 refine ρ4 U119 sz9 ?_
 refine ρ7 U9 ?_
 refine ρ4 U119 sz3 ?_
 refine ρ7 U3 ?_
 refine ρh cf105 (fun hg => getR_fn r.s r.at_ h.2.2) ?_
 refine mv ?_
 refine ρ9 ?_
 refine ρ9 ?_
 refine ρ9 ?_
 refine ma ?_
 refine ma ?_
 refine mz ?_
 refine AWP.seq (sr fun _ => ?_)
 refine mv ?_
 refine ρ2 ?_
 refine mv ?_
 refine ρg ?_
 refine ρg ?_
 refine ρs ?_
 refine ρ0 ?_
 refine ez ?_
 refine ρp (fun h1 => ?_) (fun h1 => ?_)
 · simp at h1
   have hne : numE r most = 3 := by rw [numE, if_pos (by omega)]
   rw [hne] at hde
   refine AWP.region (fun _ => ?_)
   refine mz ?_
   refine AWP.seq (sr fun _ => ?_)
   refine mv ?_
   refine ρ2 ?_
   refine ez ?_
   refine ρp (fun h2 => ?_) (fun h2 => ?_)
   · refine AWP.region (fun _ => ?_)
     refine mz (sr fun _ => ?_)
     refine ρl U119 sz119 ?_
     refine mv ?_
     refine mv ?_
     refine ARun.call rfl rfl rfl rfl cf106 (ep rfl) (.cons (ep rfl) (.cons (ep rfl) (.cons (ep rfl) (.cons (ep rfl) .nil)))) rfl (fun hg => moved_R r tNum (getN (bl r.s) r.at_).2.1 3) optN ?_
     refine mv ?_
     refine ρ1 sz119 ?_
     refine mz ?_
     refine AWP.ret ?_
     refine ρj (rs := [.cell 4 119, .tmp 5]) (.cons (.cellA rfl ((hG.at _ _).trans rfl) U119 rfl sz119 rfl rfl) (.cons (.tmp rfl) .nil)) ?_
     rw [hde]; rfl
   simp at h2
 have h1' : ¬ ((getN (bl r.s) r.at_).2.2 = 0 ∧ (getN (bl r.s) r.at_).1 > most) := by simp at h1; omega
 have hne : numE r most = (getN (bl r.s) r.at_).2.2 := by rw [numE, if_neg h1']
 rw [hne] at hde
 refine AWP.skip (thenA_n (AWP.seq (sr fun _ => ?_)))
 refine mv ?_
 refine ρ2 ?_
 refine ez ?_
 refine ρp (fun h3 => ?_) (fun h3 => ?_)
 · simp at h3
   refine AWP.region (fun _ => ?_)
   refine mz (sr fun _ => ?_)
   refine ρl U119 sz119 ?_
   refine mv ?_
   refine mv ?_
   refine ARun.call rfl rfl rfl rfl cf106 (ep rfl) (.cons (ep rfl) (.cons (ep rfl) (.cons (ep rfl) (.cons (ep rfl) .nil)))) rfl (fun hg => moved_R r tNum (getN (bl r.s) r.at_).2.1 (getN (bl r.s) r.at_).2.2) optN ?_
   refine mv ?_
   refine ρ1 sz119 ?_
   refine mz ?_
   refine AWP.ret ?_
   refine ρj (rs := [.cell 4 119, .tmp 5]) (.cons (.cellA rfl ((hG.at _ _).trans rfl) U119 rfl sz119 rfl rfl) (.cons (.tmp rfl) .nil)) ?_
   rw [hde, if_pos h3]; rfl
 simp at h3
 refine AWP.skip (thenA_n (sr fun _ => ?_))
 refine ρl U119 sz119 ?_
 refine mv ?_
 refine mv ?_
 refine ARun.call rfl rfl rfl rfl cf106 (ep rfl) (.cons (ep rfl) (.cons (ep rfl) (.cons (ep rfl) (.cons (ep rfl) .nil)))) rfl (fun hg => moved_R r tNum (getN (bl r.s) r.at_).2.1 (getN (bl r.s) r.at_).2.2) optN ?_
 refine mv ?_
 refine ρ1 sz119 ?_
 refine mz ?_
 refine AWP.ret ?_
 refine ρj (rs := [.cell 4 119, .tmp 5]) (.cons (.cellA rfl ((hG.at _ _).trans rfl) U119 rfl sz119 rfl rfl) (.cons (.tmp rfl) .nil)) ?_
 rw [hde, if_neg (by omega)]; rfl
theorem row_R (r : RdS) (most : Int) (h : r.ok) : FnP Tryz.prog 69 [aIn r, .int .i64 most] (.tup [aIn (rdRow r most).1, .sl ((rdRow r most).2.map (AV.int .i64))]) := by
 refine FnP.of Tryz.func69 rfl rfl (by simp) (by simp [AV.cells, aIn]) (fun G hG => ?_)
 have hN : NoH G.length (.tup [aIn (rdRow r most).1, .sl ((rdRow r most).2.map (AV.int .i64))]) := (by simp [AV.cells, aIn])
 refine sr fun _ => ?_
 refine ρz ?_
 refine ρo (j := 0) zv119 ?_
 refine mz ?_
 refine AWP.seq (sr fun _ => ?_)
 refine ρ4 U119 sz3 ?_
 refine ρ7 U3 ?_
 refine ρ2 ?_
 refine ez ?_
 refine ρp (fun h0 => ?_) (fun h0 => ?_)
 · have he : r.e ≠ 0 := by simpa using h0
   refine sr fun _ => ?_
   refine ρl U119 sz119 ?_
   refine ρ1 sz119 ?_
   refine mz ?_
   refine AWP.ret (thenA_r ?_)
   refine ρj (rs := [.cell 4 119, .tmp 5]) (.cons (.cellA rfl ((hG.at _ _).trans rfl) U119 rfl sz119 rfl rfl) (.cons (.tmp rfl) .nil)) ?_
   rw [rdRow, if_pos he]; rfl
 have he : r.e = 0 := by simpa using h0
 have hde : rdRow r most = (r.moved tRow (unrowN (bl r.s) r.at_ most).2.1 (unrowN (bl r.s) r.at_ most).2.2, (unrowN (bl r.s) r.at_ most).1) := by rw [rdRow, if_neg (by omega)]
 refine AWP.skip (thenA_n (sr fun _ => ?_))
 refine ρ4 U119 sz9 ?_
 refine ρ7 U9 ?_
 refine ρ4 U119 sz3 ?_
 refine ρ7 U3 ?_
 refine mv ?_
 refine ARun.call rfl rfl rfl rfl cf107 (ep rfl) (.cons (ep rfl) (.cons (ep rfl) (.cons (ep rfl) .nil))) rfl (fun hg => unrowR_fn r.s r.at_ most h.2.2) optN ?_
 refine mv ?_
 refine ρ9 ?_
 refine ρ9 ?_
 refine ρ9 ?_
 refine ma ?_
 refine ma ?_
 refine mz (sr fun _ => ?_)
 refine ρl U119 sz119 ?_
 refine mv ?_
 refine mv ?_
 refine ARun.call rfl rfl rfl rfl cf106 (ep rfl) (.cons (ep rfl) (.cons (ep rfl) (.cons (ep rfl) (.cons (ep rfl) .nil)))) rfl (fun hg => moved_R r tRow (unrowN (bl r.s) r.at_ most).2.1 (unrowN (bl r.s) r.at_ most).2.2) optN ?_
 refine mv ?_
 refine ρ1 sz119 ?_
 refine mz ?_
 refine AWP.ret ?_
 refine ρj (rs := [.cell 4 119, .tmp 5]) (.cons (.cellA rfl ((hG.at _ _).trans rfl) U119 rfl sz119 rfl rfl) (.cons (.tmp rfl) .nil)) ?_
 rw [hde]; rfl
theorem end_R (r : RdS) : FnP Tryz.prog 70 [aIn r] (aIn (rdEnd r)) := by
 refine FnP.of Tryz.func70 rfl rfl (by simp) (by simp [AV.cells, aIn, aOut]) (fun G hG => ?_)
 have hN : NoH G.length (aIn (rdEnd r)) := (by simp [AV.cells, aIn, aOut])
 refine sr fun _ => ?_
 refine ρz ?_
 refine ρo (j := 0) zv119 ?_
 refine ez ?_
 refine AWP.seq (sr fun _ => ?_)
 refine ρ4 U119 sz3 ?_
 refine ρ7 U3 ?_
 refine ρ2 ?_
 refine mv ?_
 refine ρc U119 sz3 ?_
 refine ρ5 U3 ?_
 refine ρc U119 sz9 ?_
 refine ρ5 U9 ?_
 refine ARun.lenStr rfl rfl rfl rfl U9 (Ev.opt rfl (fun h => h)) optS ?_
 refine ρs ?_
 refine ρ0 ?_
 refine ez ?_
 refine ρp (fun h0 => ?_) (fun h0 => ?_)
 · simp at h0
   refine sr fun _ => ?_
   refine ρl U119 sz119 ?_
   refine ARun.call rfl rfl rfl rfl cf106 (ep rfl) (.cons (ep rfl) (.cons (ep rfl) (.cons (ep rfl) (.cons (ep rfl) .nil)))) rfl (fun hg => moved_R r tEnd 0 6) optN ?_
   refine ρ1 sz119 ?_
   refine ez ?_
   refine AWP.ret (thenA_r ?_)
   refine endF.one (.inr rfl) rfl (.cellA rfl ((hG.at _ _).trans rfl) U119 rfl sz119 rfl rfl) ?_ hN
   rw [rdEnd, if_pos h0]; rfl
 simp at h0
 refine AWP.skip (thenA_n (sr fun _ => ?_))
 refine ρl U119 sz119 ?_
 refine ρ1 sz119 ?_
 refine ez ?_
 refine AWP.ret ?_
 refine endF.one (.inr rfl) rfl (.cellA rfl ((hG.at _ _).trans rfl) U119 rfl sz119 rfl rfl) ?_ hN
 rw [rdEnd, if_neg (by omega)]; rfl
theorem lay_R (w : WrS) (p : ByteArray) (u : List UInt8) (s : ByteArray) (hs : s = bs u) (e : Int) (hl : w.s.length + u.length ≤ 10000000) : FnP Tryz.prog 162 [aOut w, .str p, .str s, .int .i64 e] (aOut (wrPut w p u e)) := by
 subst hs
 have hol := out_len w
 refine FnP.of Tryz.func162 rfl rfl (by simp) (by simp [AV.cells, aIn, aOut]) (fun G hG => ?_)
 have hN : NoH G.length (aOut (wrPut w p u e)) := (by simp [AV.cells, aIn, aOut])
 refine sr fun _ => ?_
 refine ARun.box (j := 0) hG rfl rfl rfl rfl rfl (ep rfl) rfl rfl optN ?_
 refine ρo (j := 1) zv207 ?_
 refine ez ?_
 refine AWP.seq (sr fun _ => ?_)
 refine ρ6 (fo := 2) U207 sz3 ?_
 refine ρd U3 ?_
 refine ρ2 ?_
 refine ez ?_
 refine ρp (fun h0 => ?_) (fun h0 => ?_)
 · simp at h0
   refine sr fun _ => ?_
   refine ρn U207 sz207 ?_
   refine ρ1 sz207 ?_
   refine ez ?_
   refine AWP.ret (thenA_r ?_)
   refine endF.one (.inr rfl) rfl (.cellA rfl ((hG.at _ _).trans rfl) U207 rfl sz207 rfl rfl) ?_ hN
   rw [wrPut, if_pos h0]; rfl
 simp at h0
 refine AWP.skip (thenA_n (AWP.seq (sr fun _ => ?_)))
 refine mv ?_
 refine ρ2 ?_
 refine ez ?_
 refine ρp (fun h1 => ?_) (fun h1 => ?_)
 · simp at h1
   refine sr fun _ => ?_
   refine mv ?_
   refine mv ?_
   refine ARun.build rfl rfl rfl rfl so207 (.cons (ep rfl) (.cons (ep rfl) .nil)) rfl rfl optN ?_
   refine ρ1 sz207 ?_
   refine ez ?_
   refine AWP.ret (thenA_r ?_)
   refine endF.one (.inr rfl) rfl (.cellA rfl ((hG.at _ _).trans rfl) U207 rfl sz207 rfl rfl) ?_ hN
   rw [wrPut, if_neg (by omega), if_pos h1]; simp [aOut, WrS.out, h1]; rfl
 simp at h1
 refine AWP.skip (thenA_n (sr fun _ => ?_))
 refine ρ6 (fo := 0) U207 sz9 ?_
 refine ρd U9 ?_
 refine mv ?_
 refine ARun.cat rfl rfl rfl rfl (ep rfl) (ep rfl) (fun hg => (by rw [bs_size]; omega)) optN ?_
 refine ρ6 (fo := 0) U207 sz9 ?_
 refine ρt sz9 ?_
 refine ez (sr fun _ => ?_)
 refine ρn U207 sz207 ?_
 refine ρ1 sz207 ?_
 refine ez ?_
 refine AWP.ret ?_
 refine endF.one (.inr rfl) rfl (.cellA rfl ((hG.at _ _).trans rfl) U207 rfl sz207 rfl rfl) ?_ hN
 rw [wrPut, if_neg (by omega), if_neg (by omega)]; simp [aOut, WrS.out, h0, bs_append]; rfl
theorem nums_R (w : WrS) (l : List Int) (hll : l.length ≤ 1000) (hl : w.s.length ≤ 1000000) (hf : ∀ x, x ∈ l → -9223372036854775808 ≤ x ∧ x ≤ 9223372036854775807) : FnP Tryz.prog 134 [aOut w, .sl (l.map (AV.int .i64))] (aOut (wrNums w l)) := by
 refine FnP.of Tryz.func134 rfl rfl (by simp) (by simp [AV.cells, aIn, aOut]) (fun G hG => ?_)
 have hN : NoH G.length (aOut (wrNums w l)) := (by simp [AV.cells, aIn, aOut])
 refine sr fun _ => ?_
 refine ARun.box (j := 0) hG rfl rfl rfl rfl rfl (ep rfl) rfl rfl optN ?_
 refine ρo (j := 1) zv207 ?_
 refine ez ?_
 refine AWP.seq (sr fun _ => ?_)
 refine mz ?_
 refine AWP.block ?_
 refine AWP.rounds (fun k => k ≤ l.length) (fun k => [(1, .sl (l.map (AV.int .i64))), (2, .box (G.length + 0) 0), (4, .box (G.length + 1) 0), (5, .int .i64 (k : Int))]) (fun k => [.box [.str (wrNums w (l.take k)).out, .str (wrNums w (l.take k)).p, .int .i64 (wrNums w (l.take k)).e], .box [.str ⟨#[]⟩, .str ⟨#[]⟩, .int .i64 0]]) (fun k => l.length - k) 2 0 (Nat.zero_le _) (by repeat (first | exact .nil | refine .cons rfl ?_)) rfl (fun _ => rfl) (fun _ => ⟨by simp [AV.cells], by simp [AO.conts]⟩) (fun k hI => ?_)
 have hwl := wrNums_len (l.take k) w
 have htl : (l.take k).length ≤ k := by rw [List.length_take]; omega
 refine AWP.seq (sr fun _ => ?_)
 refine mv ?_
 refine mv ?_
 refine ρv U40 ?_
 refine ρ2 ?_
 refine ez ?_
 refine ρp (fun h0 => ?_) (fun h0 => ?_)
 · try simp [-List.getD_eq_getElem?_getD] at h0
   refine AWP.skip (thenA_n ?_)
   refine AWP.seq (AWP.block (sr fun _ => ?_))
   refine mv ?_
   refine mv ?_
   refine ρf U40 sz3 ?_
   refine ρ7 U3 ?_
   refine ρA cf163 ?_ (hF := fun hg => putR_fn _ (fit_at hf (by simpa using h0)))
   refine mv ?_
   refine ρ9 ?_
   refine ρ9 ?_
   refine ma ?_
   refine mz ?_
   refine AWP.region (fun _ => ?_)
   refine ρn U207 sz207 ?_
   refine mv ?_
   refine mv ?_
   refine ARun.call rfl rfl rfl rfl cf162 (ep rfl) (.cons (ep rfl) (.cons (ep rfl) (.cons (ep rfl) (.cons (ep rfl) .nil)))) rfl (fun hg => lay_R (wrNums w (l.take k)) tNum (putN (l.getD k default)).1 _ rfl (putN (l.getD k default)).2 (by have := putN_len (l.getD k default); omega)) optN ?_
   refine ρ1 sz207 ?_
   refine ⟨_, _, rfl, hG, ?_⟩
   refine blockA_n (thenA_n ?_)
   refine AWP.region (fun _ => ?_)
   refine mv ?_
   refine ρa ?_
   refine ma ?_
   refine ⟨_, _, rfl, hG, ?_⟩
   refine thenA_n ⟨rfl, k + 1, [], ?_, ?_, ?_, ?_⟩
   · omega
   · repeat (first | exact .nil | refine .cons rfl ?_)
   · rw [wrNums_succ w l k (by simpa using h0)]; rfl
   omega
 simp at h0
 obtain rfl : k = l.length := by omega
 rw [List.take_length]
 refine AWP.exit ?_
 refine thenA_x ?_
 refine thenA_x ?_
 refine blockA_h ?_
 refine thenA_n (sr fun _ => ?_)
 refine ρn U207 sz207 ?_
 refine ρ1 sz207 ?_
 refine ez ?_
 refine AWP.ret ?_
 refine endF.one (.inr rfl) rfl (.cellA rfl ((hG.at _ _).trans rfl) U207 rfl sz207 rfl rfl) ?_ hN
 rfl
theorem row_W (w : WrS) (l : List Int) (hll : l.length ≤ 10000) (hl : w.s.length ≤ 1000000) (hf : ∀ x, x ∈ l → -9223372036854775808 ≤ x ∧ x ≤ 9223372036854775807) : FnP Tryz.prog 133 [aOut w, .sl (l.map (AV.int .i64))] (aOut (wrRow w l)) := by
 have hrl := rowN_len l
 refine FnP.of Tryz.func133 rfl rfl (by simp) (by simp [AV.cells, aIn, aOut]) (fun G hG => ?_)
 have hN : NoH G.length (aOut (wrRow w l)) := (by simp [AV.cells, aIn, aOut])
 refine sr fun _ => ?_
 refine ARun.box (j := 0) hG rfl rfl rfl rfl rfl (ep rfl) rfl rfl optN ?_
 refine ρo (j := 1) zv207 ?_
 refine ez (sr fun _ => ?_)
 refine mv ?_
 refine ρm cf161 (fun hg => rowR_fn l hll hf) ?_
 refine mv ?_
 refine ρ9 ?_
 refine ρ9 ?_
 refine ma ?_
 refine mz (sr fun _ => ?_)
 refine ρn U207 sz207 ?_
 refine mv ?_
 refine mv ?_
 refine ARun.call rfl rfl rfl rfl cf162 (ep rfl) (.cons (ep rfl) (.cons (ep rfl) (.cons (ep rfl) (.cons (ep rfl) .nil)))) rfl (fun hg => lay_R w tRow (rowN l).1 _ rfl (rowN l).2 (by omega)) optN ?_
 refine ρ1 sz207 ?_
 refine ez ?_
 refine AWP.ret ?_
 refine endF.one (.inr rfl) rfl (.cellA rfl ((hG.at _ _).trans rfl) U207 rfl sz207 rfl rfl) ?_ hN
 rfl
end Go.Proofs.YtcndnllmlhhjiaaGreatDoor
namespace Go.Proofs.YtcndnllmlhhjiaaGreatDoor
open Go.RowKit
open NumP
theorem numb_R (n : Int) : (decide (n > 0) && decide (n < 100000)) = numbP n := by
 unfold numbP
 rw [show decide (1 ≤ n) = decide (n > 0) from decide_eq_decide.2 (by omega), show decide (n ≤ 99999) = decide (n < 100000) from decide_eq_decide.2 (by omega)]
def plainP (c : Cl) (lo hi : Int) : Bool := numbP c.item && decide (c.to_ = 0) && decide (lo ≤ c.qty) && decide (c.qty ≤ hi) && decide (c.lines.length = 0)
theorem plain_one (c : Cl) : plainP c 0 1000000 = (bareP c && (decide (c.qty = 0) || someP c.qty)) := by
 unfold plainP bareP someP
 have h : (decide (0 ≤ c.qty) && decide (c.qty ≤ 1000000)) = (decide (c.qty = 0) || (decide (1 ≤ c.qty) && decide (c.qty ≤ 1000000))) := by rw [Bool.eq_iff_iff]; simp; omega
 rw [← h]
 generalize numbP c.item = a; generalize decide (c.to_ = 0) = b; generalize decide (c.lines.length = 0) = d; generalize decide (0 ≤ c.qty) = e; generalize decide (c.qty ≤ 1000000) = f
 cases a <;> cases b <;> cases d <;> cases e <;> cases f <;> rfl
theorem plain_some (c : Cl) : plainP c 1 1000000 = (bareP c && someP c.qty) := by
 unfold plainP bareP someP
 generalize numbP c.item = a; generalize decide (c.to_ = 0) = b; generalize decide (c.lines.length = 0) = d; generalize decide (1 ≤ c.qty) = e; generalize decide (c.qty ≤ 1000000) = f
 cases a <;> cases b <;> cases d <;> cases e <;> cases f <;> rfl
theorem plain_none (c : Cl) : plainP c 0 0 = (bareP c && decide (c.qty = 0)) := by
 unfold plainP bareP
 have h : (decide (0 ≤ c.qty) && decide (c.qty ≤ 0)) = decide (c.qty = 0) := by rw [Bool.eq_iff_iff]; simp; omega
 rw [← h]
 generalize numbP c.item = a; generalize decide (c.to_ = 0) = b; generalize decide (c.lines.length = 0) = d; generalize decide (0 ≤ c.qty) = e; generalize decide (c.qty ≤ 0) = f
 cases a <;> cases b <;> cases d <;> cases e <;> cases f <;> rfl
theorem linesP_out {l : List Ln} (h : l.length = 0 ∨ 5 < l.length) : linesP l = false := by
 unfold linesP
 rcases h with h | h
 · rw [h]; rfl
 rw [decide_eq_false (show ¬ l.length ≤ 5 by omega)]; simp
theorem linesP_all {l : List Ln} (h : 0 < l.length ∧ l.length ≤ 5) (h2 : ∀ k, k < l.length → okAt l k = true) : linesP l = true := by
 rw [linesP_yes h2, decide_eq_true h.1, decide_eq_true h.2]; rfl
theorem layR_e {r : Rp} (h : ¬ (r.code < 0 ∨ 255 < r.code ∨ 20 < r.nums.length)) : (layR r).out = putR r ∧ (layR r).e = repE r := by
 cases hn : nneg r.nums with
 | true =>
   have he : repE r = 0 := by rw [repE, if_neg (by rw [hn]; simp; omega)]
   rw [putR, if_pos he, layR_ok he, he]; exact ⟨rfl, rfl⟩
 | false =>
   have he : repE r = 2 := by rw [repE, if_pos (.inr (.inr (.inr hn)))]
   have hw : (layR r).e = 2 := by
     unfold layR
     rw [wrNums_pos _ rfl (fun x hx => by simp at hx; subst hx; omega)]
     unfold wrRow wrPut rowN
     rw [if_neg (by simp [WrS.new]), if_neg (by simp [hn] : ¬ nneg r.nums = true), if_pos (by decide)]
   rw [putR, if_neg (by omega), hw, he]
   exact ⟨by rw [WrS.out, if_neg (by omega)], rfl⟩
def cells6 (s : ByteArray) (k : Nat) : List AV := (List.range 6).map fun j => AV.int .i64 (if j < k then sixN s j else 0)
theorem cells6_set (s : ByteArray) (k : Nat) (h : k < 6) : (cells6 s k).take (0 + k * 1) ++ [AV.int .i64 (sixN s k)] ++ (cells6 s k).drop (0 + k * 1 + 1) = cells6 s (k + 1) := by
 have : k = 0 ∨ k = 1 ∨ k = 2 ∨ k = 3 ∨ k = 4 ∨ k = 5 := by omega
 rcases this with rfl | rfl | rfl | rfl | rfl | rfl <;> rfl
theorem numberR_fn (n : Int) : FnP Tryz.prog 108 [.int .i64 n] (.bool (numbP n)) := by
 refine FnP.of Tryz.func108 rfl rfl (by simp) (by simp [AV.cells, aIn, aOut, aLn, aCl, aRp]) (fun G hG => ?_)
 have hN : NoH G.length (.bool (numbP n)) := (by simp [AV.cells, aIn, aOut, aLn, aCl, aRp])
 refine sr fun _ => ?_
 refine mz (sr fun _ => ?_)
 refine mv ?_
 refine ρ2 ?_
 refine mv ?_
 refine ρg ?_
 refine ρb ?_
 refine ρ0 ?_
 refine mz ?_
 refine AWP.ret ?_
 refine ρi ?_
 rw [← numb_R n]
theorem plainR_fn (c : Cl) (lo hi : Int) : FnP Tryz.prog 109 [aCl c, .int .i64 lo, .int .i64 hi] (.bool (plainP c lo hi)) := by
 refine FnP.of Tryz.func109 rfl rfl (by simp) (by simp [AV.cells, aIn, aOut, aLn, aCl, aRp]) (fun G hG => ?_)
 have hN : NoH G.length (.bool (plainP c lo hi)) := (by simp [AV.cells, aIn, aOut, aLn, aCl, aRp])
 refine sr fun _ => ?_
 refine ρz ?_
 refine mz (sr fun _ => ?_)
 refine ρ4 U84 sz3 ?_
 refine ρ7 U3 ?_
 refine ρm cf108 (fun hg => numberR_fn c.item) ?_
 refine mv ?_
 refine ρc U84 sz3 ?_
 refine ρ5 U3 ?_
 refine ρb ?_
 refine ρ0 ?_
 refine mv ?_
 refine ρc U84 sz3 ?_
 refine ρ5 U3 ?_
 refine ρg ?_
 refine ρs ?_
 refine ρ0 ?_
 refine mv ?_
 refine ρc U84 sz3 ?_
 refine ρ5 U3 ?_
 refine ρg ?_
 refine ρs ?_
 refine ρ0 ?_
 refine mv ?_
 refine ρc U84 sz82 ?_
 refine ρ5 U82 ?_
 refine ARun.lenSl rfl rfl rfl rfl U82 (Ev.opt rfl (fun h => h)) optS ?_
 refine ρb ?_
 refine ρ0 ?_
 refine mz ?_
 refine AWP.ret ?_
 refine ρi ?_
 simp [plainP]
theorem linesR_fn (l : List Ln) (hl : l.length ≤ 100000) : FnP Tryz.prog 110 [.sl (l.map aLn)] (.bool (linesP l)) := by
 refine FnP.of Tryz.func110 rfl rfl (by simp) (by simp [AV.cells, aIn, aOut, aLn, aCl, aRp]) (fun G hG => ?_)
 have hN : NoH G.length (.bool (linesP l)) := (by simp [AV.cells, aIn, aOut, aLn, aCl, aRp])
 refine sr fun _ => ?_
 refine mz ?_
 refine AWP.seq (sr fun _ => ?_)
 refine mv ?_
 refine ρv U82 ?_
 refine ρ2 ?_
 refine mv ?_
 refine ρg ?_
 refine ARun.lenSl rfl rfl rfl rfl U82 (Ev.opt rfl (fun h => h)) optS ?_
 refine ρb ?_
 refine ρ3 ?_
 refine ez ?_
 refine ρp (fun h0 => ?_) (fun h0 => ?_)
 · have hlen : l.length = 0 ∨ 5 < l.length := by simp only [List.length_map, Bool.or_eq_true, decide_eq_true_eq] at h0; omega
   refine sr fun _ => ?_
   refine mz ?_
   refine AWP.ret (thenA_r ?_)
   refine ρi ?_
   rw [linesP_out hlen]; rfl
 have hlen : 0 < l.length ∧ l.length ≤ 5 := by simp only [List.length_map, Bool.or_eq_false_iff, decide_eq_false_iff_not] at h0; omega
 refine AWP.skip (thenA_n (AWP.seq (sr fun _ => ?_)))
 refine mz ?_
 refine AWP.block ?_
 refine AWP.rounds (fun k => k ≤ l.length ∧ ∀ j, j < k → okAt l j = true) (fun k => [(0, .sl (l.map aLn)), (3, .int .i64 (k : Int))]) (fun k => []) (fun k => l.length - k) 0 0 ⟨by omega, fun j h => by omega⟩ (by repeat (first | exact .nil | refine .cons rfl ?_)) rfl (fun _ => rfl) (fun _ => ⟨by simp [AV.cells, aLn], by simp⟩) (fun k hI => ?_)
 obtain ⟨hk, hno⟩ := hI
 refine AWP.seq (sr fun _ => ?_)
 refine mv ?_
 refine mv ?_
 refine ρv U82 ?_
 refine ρ2 ?_
 refine ez ?_
 refine ρp (fun h1 => ?_) (fun h1 => ?_)
 · try simp [-List.getD_eq_getElem?_getD] at h1
   refine AWP.skip (thenA_n ?_)
   refine AWP.seq (AWP.block (AWP.seq ?_))
   refine ρE mixed (fun _ => ?_)
   refine mv ?_
   refine mv ?_
   refine ρf U82 sz127 ?_
   refine ρ4 U127 sz3 ?_
   refine ρ7 U3 ?_
   refine ρm cf108 (fun hg => numberR_fn (l.getD k default).item) ?_
   refine ρC ?_
   refine mv ?_
   refine ρg ?_
   refine ρg ?_
   refine ρu U82 sz127 ?_
   refine ρB U127 sz3 ?_
   refine ρ5 U3 ?_
   refine ρb ?_
   refine ρ3 ?_
   refine mv ?_
   refine ρg ?_
   refine ρg ?_
   refine ρu U82 sz127 ?_
   refine ρB U127 sz3 ?_
   refine ρ5 U3 ?_
   refine ρb ?_
   refine ρ3 ?_
   refine mv ?_
   refine ρg ?_
   refine ρb ?_
   refine ARun.move (.inl rfl) rfl rfl rfl (Ev.opt rfl (fun h => h)) optS ?_
   refine ρg ?_
   refine ρg ?_
   refine ρu U82 sz127 ?_
   refine ρB U127 sz3 ?_
   refine ρ5 U3 ?_
   refine ρg ?_
   refine ρg ?_
   refine ARun.arith rfl rfl rfl rfl (Ev.opt rfl (fun h => h)) (ep rfl) rfl (fun hg => i64w (by (try simp at hg); omega)) optS ?_
   refine ρq U82 sz127 ?_
   refine ρB U127 sz3 ?_
   refine ρ5 U3 ?_
   refine ρs ?_
   refine ρD ?_
   refine ρ3 ?_
   refine ⟨by kernel_rfl, _, _, rfl, hG, ?_⟩
   refine thenA_n ?_
   refine ρp (fun h2 => ?_) (fun h2 => ?_)
   · rw [okAt_nR l k (l.getD ((k : Int) - 1).toNat default).item (fun hk0 => by rw [show ((k : Int) - 1).toNat = k - 1 by omega])] at h2
     refine sr fun _ => ?_
     refine mz ?_
     refine AWP.ret (blockA_r ?_)
     refine thenA_r (thenA_r ?_)
     refine blockA_r (thenA_r ?_)
     refine ρi ?_
     rw [linesP_no (by omega) (by simpa using h2)]; rfl
   rw [okAt_nR l k (l.getD ((k : Int) - 1).toNat default).item (fun hk0 => by rw [show ((k : Int) - 1).toNat = k - 1 by omega])] at h2
   refine AWP.skip (blockA_n (thenA_n ?_))
   refine AWP.region (fun _ => ?_)
   refine mv ?_
   refine ρa ?_
   refine ma ?_
   refine ⟨_, _, rfl, hG, ?_⟩
   refine thenA_n ⟨rfl, k + 1, _, ?_, ?_, rfl, ?_⟩
   · refine ⟨by omega, fun j hj => ?_⟩
     by_cases e : j = k
     · subst e; simpa using h2
     exact hno j (by omega)
   · repeat (first | exact .nil | refine .cons rfl ?_)
   omega
 try simp [-List.getD_eq_getElem?_getD] at h1
 refine AWP.exit ?_
 refine thenA_x ?_
 refine thenA_x ?_
 refine blockA_h ?_
 refine thenA_n (sr fun _ => ?_)
 refine mz ?_
 refine AWP.ret ?_
 refine ρi ?_
 rw [linesP_all hlen (fun j hj => hno j (by omega))]; rfl
theorem checkR_fn (c : Cl) (hl : c.lines.length ≤ 100000) : FnP Tryz.prog 71 [aCl c] (.int .i64 (checkP c)) := by
 have hcm : (c.item = c.to_) ↔ (c.to_ = c.item) := eq_comm
 refine FnP.of Tryz.func71 rfl rfl (by simp) (by simp [AV.cells, aIn, aOut, aLn, aCl, aRp]) (fun G hG => ?_)
 have hN : NoH G.length (.int .i64 (checkP c)) := (by simp [AV.cells, aIn, aOut, aLn, aCl, aRp])
 refine sr fun _ => ?_
 refine ρz ?_
 refine mz (sr fun _ => ?_)
 refine ρ4 U84 sz3 ?_
 refine ρ7 U3 ?_
 refine ρm cf108 (fun hg => numberR_fn c.client) ?_
 refine mv ?_
 refine ρc U84 sz3 ?_
 refine ρ5 U3 ?_
 refine ρr cf108 (fun hg => numberR_fn c.seq) ?_
 refine ρ0 ?_
 refine mz ?_
 refine AWP.seq (sr fun _ => ?_)
 refine ρ4 U84 sz3 ?_
 refine ρ7 U3 ?_
 refine ez ?_
 refine AWP.block (sr fun _ => ?_)
 refine ρ2 ?_
 refine mz ?_
 refine ρp (fun h0 => ?_) (fun h0 => ?_)
 · simp at h0
   refine AWP.region (fun _ => ?_)
   refine mv ?_
   refine mv ?_
   refine ARun.loadPeA rfl rfl rfl rfl U84 rfl sz84 (ep rfl) rfl optS ?_
   refine ARun.call rfl rfl rfl rfl cf109 (ep rfl) (.cons (Ev.opt rfl (fun h => h)) (.cons (ep rfl) (.cons (ep rfl) .nil))) rfl (fun hg => plainR_fn c 0 1000000) optS ?_
   refine ρ0 ?_
   refine ma ?_
   refine ⟨_, _, rfl, hG, ?_⟩
   refine blockA_n (thenA_n (AWP.seq ?_))
   refine sr fun _ => ?_
   refine mv ?_
   refine ρC ?_
   refine ez ?_
   refine ρp (fun h1 => ?_) (fun h1 => ?_)
   · simp at h1
     refine sr fun _ => ?_
     refine mz ?_
     refine AWP.ret (thenA_r ?_)
     refine ρi ?_
     refine congrArg (AV.int .i64) (?_ : _ = checkP c)
     simp_all [checkP, mayP, plain_one, plain_some, plain_none, someP] <;> (intros; first | omega | (simp_all; done) | (simp_all; refine Or.resolve_left (by assumption) (?_ : ¬ (c.qty < 1 ∨ 1000000 < c.qty)); omega))
   simp at h1
   refine AWP.skip (thenA_n (sr fun _ => ?_))
   refine mz ?_
   refine AWP.ret ?_
   refine ρi ?_
   refine congrArg (AV.int .i64) (?_ : _ = checkP c)
   simp_all [checkP, mayP, plain_one, plain_some, plain_none, someP] <;> (intros; first | omega | (simp_all; done) | (simp_all; refine Or.resolve_left (by assumption) (?_ : ¬ (c.qty < 1 ∨ 1000000 < c.qty)); omega))
 simp at h0
 refine AWP.seq (sr fun _ => ?_)
 refine ρ2 ?_
 refine mz ?_
 refine ρp (fun h2 => ?_) (fun h2 => ?_)
 · simp at h2
   refine AWP.skip (thenA_n ?_)
   refine ρp (fun h3 => ?_) (fun h3 => ?_)
   · simp at h3
     refine AWP.region (fun _ => ?_)
     refine mv ?_
     refine mv ?_
     refine ARun.loadPeA rfl rfl rfl rfl U84 rfl sz84 (ep rfl) rfl optS ?_
     refine ARun.call rfl rfl rfl rfl cf109 (ep rfl) (.cons (Ev.opt rfl (fun h => h)) (.cons (ep rfl) (.cons (ep rfl) .nil))) rfl (fun hg => plainR_fn c 1 1000000) optS ?_
     refine ρ0 ?_
     refine ma ?_
     refine ⟨_, _, rfl, hG, ?_⟩
     refine blockA_n (thenA_n (AWP.seq ?_))
     refine sr fun _ => ?_
     refine mv ?_
     refine ρC ?_
     refine ez ?_
     refine ρp (fun h4 => ?_) (fun h4 => ?_)
     · simp at h4
       refine sr fun _ => ?_
       refine mz ?_
       refine AWP.ret (thenA_r ?_)
       refine ρi ?_
       refine congrArg (AV.int .i64) (?_ : _ = checkP c)
       simp_all [checkP, mayP, plain_one, plain_some, plain_none, someP] <;> (intros; first | omega | (simp_all; done) | (simp_all; refine Or.resolve_left (by assumption) (?_ : ¬ (c.qty < 1 ∨ 1000000 < c.qty)); omega))
     simp at h4
     refine AWP.skip (thenA_n (sr fun _ => ?_))
     refine mz ?_
     refine AWP.ret ?_
     refine ρi ?_
     refine congrArg (AV.int .i64) (?_ : _ = checkP c)
     simp_all [checkP, mayP, plain_one, plain_some, plain_none, someP] <;> (intros; first | omega | (simp_all; done) | (simp_all; refine Or.resolve_left (by assumption) (?_ : ¬ (c.qty < 1 ∨ 1000000 < c.qty)); omega))
   simp at h3
   refine sr fun _ => ?_
   refine ρ2 ?_
   refine mz ?_
   refine ρp (fun h5 => ?_) (fun h5 => ?_)
   · simp at h5
     refine AWP.region (fun _ => ?_)
     refine mv ?_
     refine mv ?_
     refine ρc U84 sz3 ?_
     refine ρ5 U3 ?_
     refine ρr cf108 (fun hg => numberR_fn c.item) ?_
     refine ρ0 ?_
     refine mv ?_
     refine ρc U84 sz3 ?_
     refine ρ5 U3 ?_
     refine ρr cf108 (fun hg => numberR_fn c.to_) ?_
     refine ρ0 ?_
     refine mv ?_
     refine ρc U84 sz3 ?_
     refine ρ5 U3 ?_
     refine ρc U84 sz3 ?_
     refine ρ5 U3 ?_
     refine ρs ?_
     refine ρ0 ?_
     refine mv ?_
     refine ρc U84 sz3 ?_
     refine ρ5 U3 ?_
     refine ρb ?_
     refine ρ0 ?_
     refine mv ?_
     refine ρc U84 sz3 ?_
     refine ρ5 U3 ?_
     refine ρb ?_
     refine ρ0 ?_
     refine mv ?_
     refine ρc U84 sz82 ?_
     refine ρ5 U82 ?_
     refine ARun.lenSl rfl rfl rfl rfl U82 (Ev.opt rfl (fun h => h)) optS ?_
     refine ρb ?_
     refine ρ0 ?_
     refine ma ?_
     refine ⟨_, _, rfl, hG, ?_⟩
     refine blockA_n (thenA_n (AWP.seq ?_))
     refine sr fun _ => ?_
     refine mv ?_
     refine ρC ?_
     refine ez ?_
     refine ρp (fun h6 => ?_) (fun h6 => ?_)
     · simp at h6
       refine sr fun _ => ?_
       refine mz ?_
       refine AWP.ret (thenA_r ?_)
       refine ρi ?_
       refine congrArg (AV.int .i64) (?_ : _ = checkP c)
       simp_all [checkP, mayP, plain_one, plain_some, plain_none, someP] <;> (intros; first | omega | (simp_all; done) | (simp_all; refine Or.resolve_left (by assumption) (?_ : ¬ (c.qty < 1 ∨ 1000000 < c.qty)); omega))
     simp at h6
     refine AWP.skip (thenA_n (sr fun _ => ?_))
     refine mz ?_
     refine AWP.ret ?_
     refine ρi ?_
     refine congrArg (AV.int .i64) (?_ : _ = checkP c)
     simp_all [checkP, mayP, plain_one, plain_some, plain_none, someP] <;> (intros; first | omega | (simp_all; done) | (simp_all; refine Or.resolve_left (by assumption) (?_ : ¬ (c.qty < 1 ∨ 1000000 < c.qty)); omega))
   simp at h5
   refine sr fun _ => ?_
   refine ρ2 ?_
   refine mz ?_
   refine ρp (fun h7 => ?_) (fun h7 => ?_)
   · simp at h7
     refine AWP.region (fun _ => ?_)
     refine mv ?_
     refine mv ?_
     refine ARun.loadPeA rfl rfl rfl rfl U84 rfl sz84 (ep rfl) rfl optS ?_
     refine ARun.call rfl rfl rfl rfl cf109 (ep rfl) (.cons (Ev.opt rfl (fun h => h)) (.cons (ep rfl) (.cons (ep rfl) .nil))) rfl (fun hg => plainR_fn c 0 0) optS ?_
     refine ρ0 ?_
     refine ma ?_
     refine ⟨_, _, rfl, hG, ?_⟩
     refine blockA_n (thenA_n (AWP.seq ?_))
     refine sr fun _ => ?_
     refine mv ?_
     refine ρC ?_
     refine ez ?_
     refine ρp (fun h8 => ?_) (fun h8 => ?_)
     · simp at h8
       refine sr fun _ => ?_
       refine mz ?_
       refine AWP.ret (thenA_r ?_)
       refine ρi ?_
       refine congrArg (AV.int .i64) (?_ : _ = checkP c)
       simp_all [checkP, mayP, plain_one, plain_some, plain_none, someP] <;> (intros; first | omega | (simp_all; done) | (simp_all; refine Or.resolve_left (by assumption) (?_ : ¬ (c.qty < 1 ∨ 1000000 < c.qty)); omega))
     simp at h8
     refine AWP.skip (thenA_n (sr fun _ => ?_))
     refine mz ?_
     refine AWP.ret ?_
     refine ρi ?_
     refine congrArg (AV.int .i64) (?_ : _ = checkP c)
     simp_all [checkP, mayP, plain_one, plain_some, plain_none, someP] <;> (intros; first | omega | (simp_all; done) | (simp_all; refine Or.resolve_left (by assumption) (?_ : ¬ (c.qty < 1 ∨ 1000000 < c.qty)); omega))
   simp at h7
   refine sr fun _ => ?_
   refine ρ2 ?_
   refine mz ?_
   refine ρp (fun h9 => ?_) (fun h9 => ?_)
   · simp at h9
     refine AWP.region (fun _ => ?_)
     refine mv ?_
     refine mv ?_
     refine ρc U84 sz3 ?_
     refine ρ5 U3 ?_
     refine ρb ?_
     refine ρ0 ?_
     refine mv ?_
     refine ρc U84 sz3 ?_
     refine ρ5 U3 ?_
     refine ρb ?_
     refine ρ0 ?_
     refine mv ?_
     refine ρc U84 sz3 ?_
     refine ρ5 U3 ?_
     refine ρb ?_
     refine ρ0 ?_
     refine mv ?_
     refine ρc U84 sz82 ?_
     refine ρ5 U82 ?_
     refine ρr cf110 (fun hg => linesR_fn c.lines hl) ?_
     refine ρ0 ?_
     refine ma ?_
     refine ⟨_, _, rfl, hG, ?_⟩
     refine blockA_n (thenA_n (AWP.seq ?_))
     refine sr fun _ => ?_
     refine mv ?_
     refine ρC ?_
     refine ez ?_
     refine ρp (fun h10 => ?_) (fun h10 => ?_)
     · simp at h10
       refine sr fun _ => ?_
       refine mz ?_
       refine AWP.ret (thenA_r ?_)
       refine ρi ?_
       refine congrArg (AV.int .i64) (?_ : _ = checkP c)
       simp_all [checkP, mayP, plain_one, plain_some, plain_none, someP] <;> (intros; first | omega | (simp_all; done) | (simp_all; refine Or.resolve_left (by assumption) (?_ : ¬ (c.qty < 1 ∨ 1000000 < c.qty)); omega))
     simp at h10
     refine AWP.skip (thenA_n (sr fun _ => ?_))
     refine mz ?_
     refine AWP.ret ?_
     refine ρi ?_
     refine congrArg (AV.int .i64) (?_ : _ = checkP c)
     simp_all [checkP, mayP, plain_one, plain_some, plain_none, someP] <;> (intros; first | omega | (simp_all; done) | (simp_all; refine Or.resolve_left (by assumption) (?_ : ¬ (c.qty < 1 ∨ 1000000 < c.qty)); omega))
   simp at h9
   refine sr fun _ => ?_
   refine mz ?_
   refine AWP.ret (blockA_r (thenA_r ?_))
   refine ρi ?_
   refine congrArg (AV.int .i64) (?_ : _ = checkP c)
   simp_all [checkP, mayP, plain_one, plain_some, plain_none, someP] <;> (intros; first | omega | (simp_all; done) | (simp_all; refine Or.resolve_left (by assumption) (?_ : ¬ (c.qty < 1 ∨ 1000000 < c.qty)); omega))
 simp at h2
 refine sr fun _ => ?_
 refine ρ2 ?_
 refine mz ?_
 refine ρp (fun h11 => ?_) (fun h11 => ?_)
 · simp at h11
   refine AWP.skip (thenA_n ?_)
   refine ρp (fun h12 => ?_) (fun h12 => ?_)
   · simp at h12
     refine AWP.region (fun _ => ?_)
     refine mv ?_
     refine mv ?_
     refine ARun.loadPeA rfl rfl rfl rfl U84 rfl sz84 (ep rfl) rfl optS ?_
     refine ARun.call rfl rfl rfl rfl cf109 (ep rfl) (.cons (Ev.opt rfl (fun h => h)) (.cons (ep rfl) (.cons (ep rfl) .nil))) rfl (fun hg => plainR_fn c 1 1000000) optS ?_
     refine ρ0 ?_
     refine ma ?_
     refine ⟨_, _, rfl, hG, ?_⟩
     refine blockA_n (thenA_n (AWP.seq ?_))
     refine sr fun _ => ?_
     refine mv ?_
     refine ρC ?_
     refine ez ?_
     refine ρp (fun h13 => ?_) (fun h13 => ?_)
     · simp at h13
       refine sr fun _ => ?_
       refine mz ?_
       refine AWP.ret (thenA_r ?_)
       refine ρi ?_
       refine congrArg (AV.int .i64) (?_ : _ = checkP c)
       simp_all [checkP, mayP, plain_one, plain_some, plain_none, someP] <;> (intros; first | omega | (simp_all; done) | (simp_all; refine Or.resolve_left (by assumption) (?_ : ¬ (c.qty < 1 ∨ 1000000 < c.qty)); omega))
     simp at h13
     refine AWP.skip (thenA_n (sr fun _ => ?_))
     refine mz ?_
     refine AWP.ret ?_
     refine ρi ?_
     refine congrArg (AV.int .i64) (?_ : _ = checkP c)
     simp_all [checkP, mayP, plain_one, plain_some, plain_none, someP] <;> (intros; first | omega | (simp_all; done) | (simp_all; refine Or.resolve_left (by assumption) (?_ : ¬ (c.qty < 1 ∨ 1000000 < c.qty)); omega))
   simp at h12
   refine sr fun _ => ?_
   refine ρ2 ?_
   refine mz ?_
   refine ρp (fun h14 => ?_) (fun h14 => ?_)
   · simp at h14
     refine AWP.region (fun _ => ?_)
     refine mv ?_
     refine mv ?_
     refine ρc U84 sz3 ?_
     refine ρ5 U3 ?_
     refine ρr cf108 (fun hg => numberR_fn c.item) ?_
     refine ρ0 ?_
     refine mv ?_
     refine ρc U84 sz3 ?_
     refine ρ5 U3 ?_
     refine ρr cf108 (fun hg => numberR_fn c.to_) ?_
     refine ρ0 ?_
     refine mv ?_
     refine ρc U84 sz3 ?_
     refine ρ5 U3 ?_
     refine ρc U84 sz3 ?_
     refine ρ5 U3 ?_
     refine ρs ?_
     refine ρ0 ?_
     refine mv ?_
     refine ρc U84 sz3 ?_
     refine ρ5 U3 ?_
     refine ρb ?_
     refine ρ0 ?_
     refine mv ?_
     refine ρc U84 sz3 ?_
     refine ρ5 U3 ?_
     refine ρb ?_
     refine ρ0 ?_
     refine mv ?_
     refine ρc U84 sz82 ?_
     refine ρ5 U82 ?_
     refine ARun.lenSl rfl rfl rfl rfl U82 (Ev.opt rfl (fun h => h)) optS ?_
     refine ρb ?_
     refine ρ0 ?_
     refine ma ?_
     refine ⟨_, _, rfl, hG, ?_⟩
     refine blockA_n (thenA_n (AWP.seq ?_))
     refine sr fun _ => ?_
     refine mv ?_
     refine ρC ?_
     refine ez ?_
     refine ρp (fun h15 => ?_) (fun h15 => ?_)
     · simp at h15
       refine sr fun _ => ?_
       refine mz ?_
       refine AWP.ret (thenA_r ?_)
       refine ρi ?_
       refine congrArg (AV.int .i64) (?_ : _ = checkP c)
       simp_all [checkP, mayP, plain_one, plain_some, plain_none, someP] <;> (intros; first | omega | (simp_all; done) | (simp_all; refine Or.resolve_left (by assumption) (?_ : ¬ (c.qty < 1 ∨ 1000000 < c.qty)); omega))
     simp at h15
     refine AWP.skip (thenA_n (sr fun _ => ?_))
     refine mz ?_
     refine AWP.ret ?_
     refine ρi ?_
     refine congrArg (AV.int .i64) (?_ : _ = checkP c)
     simp_all [checkP, mayP, plain_one, plain_some, plain_none, someP] <;> (intros; first | omega | (simp_all; done) | (simp_all; refine Or.resolve_left (by assumption) (?_ : ¬ (c.qty < 1 ∨ 1000000 < c.qty)); omega))
   simp at h14
   refine sr fun _ => ?_
   refine ρ2 ?_
   refine mz ?_
   refine ρp (fun h16 => ?_) (fun h16 => ?_)
   · simp at h16
     refine AWP.region (fun _ => ?_)
     refine mv ?_
     refine mv ?_
     refine ARun.loadPeA rfl rfl rfl rfl U84 rfl sz84 (ep rfl) rfl optS ?_
     refine ARun.call rfl rfl rfl rfl cf109 (ep rfl) (.cons (Ev.opt rfl (fun h => h)) (.cons (ep rfl) (.cons (ep rfl) .nil))) rfl (fun hg => plainR_fn c 0 0) optS ?_
     refine ρ0 ?_
     refine ma ?_
     refine ⟨_, _, rfl, hG, ?_⟩
     refine blockA_n (thenA_n (AWP.seq ?_))
     refine sr fun _ => ?_
     refine mv ?_
     refine ρC ?_
     refine ez ?_
     refine ρp (fun h17 => ?_) (fun h17 => ?_)
     · simp at h17
       refine sr fun _ => ?_
       refine mz ?_
       refine AWP.ret (thenA_r ?_)
       refine ρi ?_
       refine congrArg (AV.int .i64) (?_ : _ = checkP c)
       simp_all [checkP, mayP, plain_one, plain_some, plain_none, someP] <;> (intros; first | omega | (simp_all; done) | (simp_all; refine Or.resolve_left (by assumption) (?_ : ¬ (c.qty < 1 ∨ 1000000 < c.qty)); omega))
     simp at h17
     refine AWP.skip (thenA_n (sr fun _ => ?_))
     refine mz ?_
     refine AWP.ret ?_
     refine ρi ?_
     refine congrArg (AV.int .i64) (?_ : _ = checkP c)
     simp_all [checkP, mayP, plain_one, plain_some, plain_none, someP] <;> (intros; first | omega | (simp_all; done) | (simp_all; refine Or.resolve_left (by assumption) (?_ : ¬ (c.qty < 1 ∨ 1000000 < c.qty)); omega))
   simp at h16
   refine sr fun _ => ?_
   refine ρ2 ?_
   refine mz ?_
   refine ρp (fun h18 => ?_) (fun h18 => ?_)
   · simp at h18
     refine AWP.region (fun _ => ?_)
     refine mv ?_
     refine mv ?_
     refine ρc U84 sz3 ?_
     refine ρ5 U3 ?_
     refine ρb ?_
     refine ρ0 ?_
     refine mv ?_
     refine ρc U84 sz3 ?_
     refine ρ5 U3 ?_
     refine ρb ?_
     refine ρ0 ?_
     refine mv ?_
     refine ρc U84 sz3 ?_
     refine ρ5 U3 ?_
     refine ρb ?_
     refine ρ0 ?_
     refine mv ?_
     refine ρc U84 sz82 ?_
     refine ρ5 U82 ?_
     refine ρr cf110 (fun hg => linesR_fn c.lines hl) ?_
     refine ρ0 ?_
     refine ma ?_
     refine ⟨_, _, rfl, hG, ?_⟩
     refine blockA_n (thenA_n (AWP.seq ?_))
     refine sr fun _ => ?_
     refine mv ?_
     refine ρC ?_
     refine ez ?_
     refine ρp (fun h19 => ?_) (fun h19 => ?_)
     · simp at h19
       refine sr fun _ => ?_
       refine mz ?_
       refine AWP.ret (thenA_r ?_)
       refine ρi ?_
       refine congrArg (AV.int .i64) (?_ : _ = checkP c)
       simp_all [checkP, mayP, plain_one, plain_some, plain_none, someP] <;> (intros; first | omega | (simp_all; done) | (simp_all; refine Or.resolve_left (by assumption) (?_ : ¬ (c.qty < 1 ∨ 1000000 < c.qty)); omega))
     simp at h19
     refine AWP.skip (thenA_n (sr fun _ => ?_))
     refine mz ?_
     refine AWP.ret ?_
     refine ρi ?_
     refine congrArg (AV.int .i64) (?_ : _ = checkP c)
     simp_all [checkP, mayP, plain_one, plain_some, plain_none, someP] <;> (intros; first | omega | (simp_all; done) | (simp_all; refine Or.resolve_left (by assumption) (?_ : ¬ (c.qty < 1 ∨ 1000000 < c.qty)); omega))
   simp at h18
   refine sr fun _ => ?_
   refine mz ?_
   refine AWP.ret (blockA_r (thenA_r ?_))
   refine ρi ?_
   refine congrArg (AV.int .i64) (?_ : _ = checkP c)
   simp_all [checkP, mayP, plain_one, plain_some, plain_none, someP] <;> (intros; first | omega | (simp_all; done) | (simp_all; refine Or.resolve_left (by assumption) (?_ : ¬ (c.qty < 1 ∨ 1000000 < c.qty)); omega))
 simp at h11
 refine sr fun _ => ?_
 refine ρ2 ?_
 refine mz ?_
 refine ρp (fun h20 => ?_) (fun h20 => ?_)
 · simp at h20
   refine AWP.skip (thenA_n ?_)
   refine ρp (fun h21 => ?_) (fun h21 => ?_)
   · simp at h21
     refine AWP.region (fun _ => ?_)
     refine mv ?_
     refine mv ?_
     refine ARun.loadPeA rfl rfl rfl rfl U84 rfl sz84 (ep rfl) rfl optS ?_
     refine ARun.call rfl rfl rfl rfl cf109 (ep rfl) (.cons (Ev.opt rfl (fun h => h)) (.cons (ep rfl) (.cons (ep rfl) .nil))) rfl (fun hg => plainR_fn c 1 1000000) optS ?_
     refine ρ0 ?_
     refine ma ?_
     refine ⟨_, _, rfl, hG, ?_⟩
     refine blockA_n (thenA_n (AWP.seq ?_))
     refine sr fun _ => ?_
     refine mv ?_
     refine ρC ?_
     refine ez ?_
     refine ρp (fun h22 => ?_) (fun h22 => ?_)
     · simp at h22
       refine sr fun _ => ?_
       refine mz ?_
       refine AWP.ret (thenA_r ?_)
       refine ρi ?_
       refine congrArg (AV.int .i64) (?_ : _ = checkP c)
       simp_all [checkP, mayP, plain_one, plain_some, plain_none, someP] <;> (intros; first | omega | (simp_all; done) | (simp_all; refine Or.resolve_left (by assumption) (?_ : ¬ (c.qty < 1 ∨ 1000000 < c.qty)); omega))
     simp at h22
     refine AWP.skip (thenA_n (sr fun _ => ?_))
     refine mz ?_
     refine AWP.ret ?_
     refine ρi ?_
     refine congrArg (AV.int .i64) (?_ : _ = checkP c)
     simp_all [checkP, mayP, plain_one, plain_some, plain_none, someP] <;> (intros; first | omega | (simp_all; done) | (simp_all; refine Or.resolve_left (by assumption) (?_ : ¬ (c.qty < 1 ∨ 1000000 < c.qty)); omega))
   simp at h21
   refine sr fun _ => ?_
   refine ρ2 ?_
   refine mz ?_
   refine ρp (fun h23 => ?_) (fun h23 => ?_)
   · simp at h23
     refine AWP.region (fun _ => ?_)
     refine mv ?_
     refine mv ?_
     refine ρc U84 sz3 ?_
     refine ρ5 U3 ?_
     refine ρr cf108 (fun hg => numberR_fn c.item) ?_
     refine ρ0 ?_
     refine mv ?_
     refine ρc U84 sz3 ?_
     refine ρ5 U3 ?_
     refine ρr cf108 (fun hg => numberR_fn c.to_) ?_
     refine ρ0 ?_
     refine mv ?_
     refine ρc U84 sz3 ?_
     refine ρ5 U3 ?_
     refine ρc U84 sz3 ?_
     refine ρ5 U3 ?_
     refine ρs ?_
     refine ρ0 ?_
     refine mv ?_
     refine ρc U84 sz3 ?_
     refine ρ5 U3 ?_
     refine ρb ?_
     refine ρ0 ?_
     refine mv ?_
     refine ρc U84 sz3 ?_
     refine ρ5 U3 ?_
     refine ρb ?_
     refine ρ0 ?_
     refine mv ?_
     refine ρc U84 sz82 ?_
     refine ρ5 U82 ?_
     refine ARun.lenSl rfl rfl rfl rfl U82 (Ev.opt rfl (fun h => h)) optS ?_
     refine ρb ?_
     refine ρ0 ?_
     refine ma ?_
     refine ⟨_, _, rfl, hG, ?_⟩
     refine blockA_n (thenA_n (AWP.seq ?_))
     refine sr fun _ => ?_
     refine mv ?_
     refine ρC ?_
     refine ez ?_
     refine ρp (fun h24 => ?_) (fun h24 => ?_)
     · simp at h24
       refine sr fun _ => ?_
       refine mz ?_
       refine AWP.ret (thenA_r ?_)
       refine ρi ?_
       refine congrArg (AV.int .i64) (?_ : _ = checkP c)
       simp_all [checkP, mayP, plain_one, plain_some, plain_none, someP] <;> (intros; first | omega | (simp_all; done) | (simp_all; refine Or.resolve_left (by assumption) (?_ : ¬ (c.qty < 1 ∨ 1000000 < c.qty)); omega))
     simp at h24
     refine AWP.skip (thenA_n (sr fun _ => ?_))
     refine mz ?_
     refine AWP.ret ?_
     refine ρi ?_
     refine congrArg (AV.int .i64) (?_ : _ = checkP c)
     simp_all [checkP, mayP, plain_one, plain_some, plain_none, someP] <;> (intros; first | omega | (simp_all; done) | (simp_all; refine Or.resolve_left (by assumption) (?_ : ¬ (c.qty < 1 ∨ 1000000 < c.qty)); omega))
   simp at h23
   refine sr fun _ => ?_
   refine ρ2 ?_
   refine mz ?_
   refine ρp (fun h25 => ?_) (fun h25 => ?_)
   · simp at h25
     refine AWP.region (fun _ => ?_)
     refine mv ?_
     refine mv ?_
     refine ARun.loadPeA rfl rfl rfl rfl U84 rfl sz84 (ep rfl) rfl optS ?_
     refine ARun.call rfl rfl rfl rfl cf109 (ep rfl) (.cons (Ev.opt rfl (fun h => h)) (.cons (ep rfl) (.cons (ep rfl) .nil))) rfl (fun hg => plainR_fn c 0 0) optS ?_
     refine ρ0 ?_
     refine ma ?_
     refine ⟨_, _, rfl, hG, ?_⟩
     refine blockA_n (thenA_n (AWP.seq ?_))
     refine sr fun _ => ?_
     refine mv ?_
     refine ρC ?_
     refine ez ?_
     refine ρp (fun h26 => ?_) (fun h26 => ?_)
     · simp at h26
       refine sr fun _ => ?_
       refine mz ?_
       refine AWP.ret (thenA_r ?_)
       refine ρi ?_
       refine congrArg (AV.int .i64) (?_ : _ = checkP c)
       simp_all [checkP, mayP, plain_one, plain_some, plain_none, someP] <;> (intros; first | omega | (simp_all; done) | (simp_all; refine Or.resolve_left (by assumption) (?_ : ¬ (c.qty < 1 ∨ 1000000 < c.qty)); omega))
     simp at h26
     refine AWP.skip (thenA_n (sr fun _ => ?_))
     refine mz ?_
     refine AWP.ret ?_
     refine ρi ?_
     refine congrArg (AV.int .i64) (?_ : _ = checkP c)
     simp_all [checkP, mayP, plain_one, plain_some, plain_none, someP] <;> (intros; first | omega | (simp_all; done) | (simp_all; refine Or.resolve_left (by assumption) (?_ : ¬ (c.qty < 1 ∨ 1000000 < c.qty)); omega))
   simp at h25
   refine sr fun _ => ?_
   refine ρ2 ?_
   refine mz ?_
   refine ρp (fun h27 => ?_) (fun h27 => ?_)
   · simp at h27
     refine AWP.region (fun _ => ?_)
     refine mv ?_
     refine mv ?_
     refine ρc U84 sz3 ?_
     refine ρ5 U3 ?_
     refine ρb ?_
     refine ρ0 ?_
     refine mv ?_
     refine ρc U84 sz3 ?_
     refine ρ5 U3 ?_
     refine ρb ?_
     refine ρ0 ?_
     refine mv ?_
     refine ρc U84 sz3 ?_
     refine ρ5 U3 ?_
     refine ρb ?_
     refine ρ0 ?_
     refine mv ?_
     refine ρc U84 sz82 ?_
     refine ρ5 U82 ?_
     refine ρr cf110 (fun hg => linesR_fn c.lines hl) ?_
     refine ρ0 ?_
     refine ma ?_
     refine ⟨_, _, rfl, hG, ?_⟩
     refine blockA_n (thenA_n (AWP.seq ?_))
     refine sr fun _ => ?_
     refine mv ?_
     refine ρC ?_
     refine ez ?_
     refine ρp (fun h28 => ?_) (fun h28 => ?_)
     · simp at h28
       refine sr fun _ => ?_
       refine mz ?_
       refine AWP.ret (thenA_r ?_)
       refine ρi ?_
       refine congrArg (AV.int .i64) (?_ : _ = checkP c)
       simp_all [checkP, mayP, plain_one, plain_some, plain_none, someP] <;> (intros; first | omega | (simp_all; done) | (simp_all; refine Or.resolve_left (by assumption) (?_ : ¬ (c.qty < 1 ∨ 1000000 < c.qty)); omega))
     simp at h28
     refine AWP.skip (thenA_n (sr fun _ => ?_))
     refine mz ?_
     refine AWP.ret ?_
     refine ρi ?_
     refine congrArg (AV.int .i64) (?_ : _ = checkP c)
     simp_all [checkP, mayP, plain_one, plain_some, plain_none, someP] <;> (intros; first | omega | (simp_all; done) | (simp_all; refine Or.resolve_left (by assumption) (?_ : ¬ (c.qty < 1 ∨ 1000000 < c.qty)); omega))
   simp at h27
   refine sr fun _ => ?_
   refine mz ?_
   refine AWP.ret (blockA_r (thenA_r ?_))
   refine ρi ?_
   refine congrArg (AV.int .i64) (?_ : _ = checkP c)
   simp_all [checkP, mayP, plain_one, plain_some, plain_none, someP] <;> (intros; first | omega | (simp_all; done) | (simp_all; refine Or.resolve_left (by assumption) (?_ : ¬ (c.qty < 1 ∨ 1000000 < c.qty)); omega))
 simp at h20
 refine AWP.region (fun _ => ?_)
 refine ρ2 ?_
 refine mz ?_
 refine ρp (fun h29 => ?_) (fun h29 => ?_)
 · simp at h29
   refine AWP.region (fun _ => ?_)
   refine mv ?_
   refine mv ?_
   refine ARun.loadPeA rfl rfl rfl rfl U84 rfl sz84 (ep rfl) rfl optS ?_
   refine ARun.call rfl rfl rfl rfl cf109 (ep rfl) (.cons (Ev.opt rfl (fun h => h)) (.cons (ep rfl) (.cons (ep rfl) .nil))) rfl (fun hg => plainR_fn c 1 1000000) optS ?_
   refine ρ0 ?_
   refine ma ?_
   refine ⟨_, _, rfl, hG, ?_⟩
   refine blockA_n (thenA_n (AWP.seq ?_))
   refine sr fun _ => ?_
   refine mv ?_
   refine ρC ?_
   refine ez ?_
   refine ρp (fun h30 => ?_) (fun h30 => ?_)
   · simp at h30
     refine sr fun _ => ?_
     refine mz ?_
     refine AWP.ret (thenA_r ?_)
     refine ρi ?_
     refine congrArg (AV.int .i64) (?_ : _ = checkP c)
     simp_all [checkP, mayP, plain_one, plain_some, plain_none, someP] <;> (intros; first | omega | (simp_all; done) | (simp_all; refine Or.resolve_left (by assumption) (?_ : ¬ (c.qty < 1 ∨ 1000000 < c.qty)); omega))
   simp at h30
   refine AWP.skip (thenA_n (sr fun _ => ?_))
   refine mz ?_
   refine AWP.ret ?_
   refine ρi ?_
   refine congrArg (AV.int .i64) (?_ : _ = checkP c)
   simp_all [checkP, mayP, plain_one, plain_some, plain_none, someP] <;> (intros; first | omega | (simp_all; done) | (simp_all; refine Or.resolve_left (by assumption) (?_ : ¬ (c.qty < 1 ∨ 1000000 < c.qty)); omega))
 simp at h29
 refine sr fun _ => ?_
 refine ρ2 ?_
 refine mz ?_
 refine ρp (fun h31 => ?_) (fun h31 => ?_)
 · simp at h31
   refine AWP.region (fun _ => ?_)
   refine mv ?_
   refine mv ?_
   refine ρc U84 sz3 ?_
   refine ρ5 U3 ?_
   refine ρr cf108 (fun hg => numberR_fn c.item) ?_
   refine ρ0 ?_
   refine mv ?_
   refine ρc U84 sz3 ?_
   refine ρ5 U3 ?_
   refine ρr cf108 (fun hg => numberR_fn c.to_) ?_
   refine ρ0 ?_
   refine mv ?_
   refine ρc U84 sz3 ?_
   refine ρ5 U3 ?_
   refine ρc U84 sz3 ?_
   refine ρ5 U3 ?_
   refine ρs ?_
   refine ρ0 ?_
   refine mv ?_
   refine ρc U84 sz3 ?_
   refine ρ5 U3 ?_
   refine ρb ?_
   refine ρ0 ?_
   refine mv ?_
   refine ρc U84 sz3 ?_
   refine ρ5 U3 ?_
   refine ρb ?_
   refine ρ0 ?_
   refine mv ?_
   refine ρc U84 sz82 ?_
   refine ρ5 U82 ?_
   refine ARun.lenSl rfl rfl rfl rfl U82 (Ev.opt rfl (fun h => h)) optS ?_
   refine ρb ?_
   refine ρ0 ?_
   refine ma ?_
   refine ⟨_, _, rfl, hG, ?_⟩
   refine blockA_n (thenA_n (AWP.seq ?_))
   refine sr fun _ => ?_
   refine mv ?_
   refine ρC ?_
   refine ez ?_
   refine ρp (fun h32 => ?_) (fun h32 => ?_)
   · simp at h32
     refine sr fun _ => ?_
     refine mz ?_
     refine AWP.ret (thenA_r ?_)
     refine ρi ?_
     refine congrArg (AV.int .i64) (?_ : _ = checkP c)
     simp_all [checkP, mayP, plain_one, plain_some, plain_none, someP] <;> (intros; first | omega | (simp_all; done) | (simp_all; refine Or.resolve_left (by assumption) (?_ : ¬ (c.qty < 1 ∨ 1000000 < c.qty)); omega))
   simp at h32
   refine AWP.skip (thenA_n (sr fun _ => ?_))
   refine mz ?_
   refine AWP.ret ?_
   refine ρi ?_
   refine congrArg (AV.int .i64) (?_ : _ = checkP c)
   simp_all [checkP, mayP, plain_one, plain_some, plain_none, someP] <;> (intros; first | omega | (simp_all; done) | (simp_all; refine Or.resolve_left (by assumption) (?_ : ¬ (c.qty < 1 ∨ 1000000 < c.qty)); omega))
 simp at h31
 refine sr fun _ => ?_
 refine ρ2 ?_
 refine mz ?_
 refine ρp (fun h33 => ?_) (fun h33 => ?_)
 · simp at h33
   refine AWP.region (fun _ => ?_)
   refine mv ?_
   refine mv ?_
   refine ARun.loadPeA rfl rfl rfl rfl U84 rfl sz84 (ep rfl) rfl optS ?_
   refine ARun.call rfl rfl rfl rfl cf109 (ep rfl) (.cons (Ev.opt rfl (fun h => h)) (.cons (ep rfl) (.cons (ep rfl) .nil))) rfl (fun hg => plainR_fn c 0 0) optS ?_
   refine ρ0 ?_
   refine ma ?_
   refine ⟨_, _, rfl, hG, ?_⟩
   refine blockA_n (thenA_n (AWP.seq ?_))
   refine sr fun _ => ?_
   refine mv ?_
   refine ρC ?_
   refine ez ?_
   refine ρp (fun h34 => ?_) (fun h34 => ?_)
   · simp at h34
     refine sr fun _ => ?_
     refine mz ?_
     refine AWP.ret (thenA_r ?_)
     refine ρi ?_
     refine congrArg (AV.int .i64) (?_ : _ = checkP c)
     simp_all [checkP, mayP, plain_one, plain_some, plain_none, someP] <;> (intros; first | omega | (simp_all; done) | (simp_all; refine Or.resolve_left (by assumption) (?_ : ¬ (c.qty < 1 ∨ 1000000 < c.qty)); omega))
   simp at h34
   refine AWP.skip (thenA_n (sr fun _ => ?_))
   refine mz ?_
   refine AWP.ret ?_
   refine ρi ?_
   refine congrArg (AV.int .i64) (?_ : _ = checkP c)
   simp_all [checkP, mayP, plain_one, plain_some, plain_none, someP] <;> (intros; first | omega | (simp_all; done) | (simp_all; refine Or.resolve_left (by assumption) (?_ : ¬ (c.qty < 1 ∨ 1000000 < c.qty)); omega))
 simp at h33
 refine sr fun _ => ?_
 refine ρ2 ?_
 refine mz ?_
 refine ρp (fun h35 => ?_) (fun h35 => ?_)
 · simp at h35
   refine AWP.region (fun _ => ?_)
   refine mv ?_
   refine mv ?_
   refine ρc U84 sz3 ?_
   refine ρ5 U3 ?_
   refine ρb ?_
   refine ρ0 ?_
   refine mv ?_
   refine ρc U84 sz3 ?_
   refine ρ5 U3 ?_
   refine ρb ?_
   refine ρ0 ?_
   refine mv ?_
   refine ρc U84 sz3 ?_
   refine ρ5 U3 ?_
   refine ρb ?_
   refine ρ0 ?_
   refine mv ?_
   refine ρc U84 sz82 ?_
   refine ρ5 U82 ?_
   refine ρr cf110 (fun hg => linesR_fn c.lines hl) ?_
   refine ρ0 ?_
   refine ma ?_
   refine ⟨_, _, rfl, hG, ?_⟩
   refine blockA_n (thenA_n (AWP.seq ?_))
   refine sr fun _ => ?_
   refine mv ?_
   refine ρC ?_
   refine ez ?_
   refine ρp (fun h36 => ?_) (fun h36 => ?_)
   · simp at h36
     refine sr fun _ => ?_
     refine mz ?_
     refine AWP.ret (thenA_r ?_)
     refine ρi ?_
     refine congrArg (AV.int .i64) (?_ : _ = checkP c)
     simp_all [checkP, mayP, plain_one, plain_some, plain_none, someP] <;> (intros; first | omega | (simp_all; done) | (simp_all; refine Or.resolve_left (by assumption) (?_ : ¬ (c.qty < 1 ∨ 1000000 < c.qty)); omega))
   simp at h36
   refine AWP.skip (thenA_n (sr fun _ => ?_))
   refine mz ?_
   refine AWP.ret ?_
   refine ρi ?_
   refine congrArg (AV.int .i64) (?_ : _ = checkP c)
   simp_all [checkP, mayP, plain_one, plain_some, plain_none, someP] <;> (intros; first | omega | (simp_all; done) | (simp_all; refine Or.resolve_left (by assumption) (?_ : ¬ (c.qty < 1 ∨ 1000000 < c.qty)); omega))
 simp at h35
 refine sr fun _ => ?_
 refine mz ?_
 refine AWP.ret (blockA_r (thenA_r ?_))
 refine ρi ?_
 refine congrArg (AV.int .i64) (?_ : _ = checkP c)
 simp_all [checkP, mayP, plain_one, plain_some, plain_none, someP] <;> (intros; first | omega | (simp_all; done) | (simp_all; refine Or.resolve_left (by assumption) (?_ : ¬ (c.qty < 1 ∨ 1000000 < c.qty)); omega))
theorem putR_R (c : Rp) (hl : c.nums.length ≤ 100000) (hf : ∀ x, x ∈ c.nums → -9223372036854775808 ≤ x ∧ x ≤ 9223372036854775807) : FnP Tryz.prog 92 [aRp c] (.tup [.str (putR c), .int .i64 (repE c)]) := by
 refine FnP.of Tryz.func92 rfl rfl (by simp) (by simp [AV.cells, aIn, aOut, aLn, aCl, aRp]) (fun G hG => ?_)
 have hN : NoH G.length (.tup [.str (putR c), .int .i64 (repE c)]) := (by simp [AV.cells, aIn, aOut, aLn, aCl, aRp])
 refine sr fun _ => ?_
 refine ρz ?_
 refine ma ?_
 refine mz ?_
 refine AWP.seq (sr fun _ => ?_)
 refine ρ4 U93 sz36 ?_
 refine ρ7 U36 ?_
 refine ρ2 ?_
 refine mv ?_
 refine ρc U93 sz36 ?_
 refine ρ5 U36 ?_
 refine ρb ?_
 refine ρ3 ?_
 refine mv ?_
 refine ρc U93 sz40 ?_
 refine ρ5 U40 ?_
 refine ARun.lenSl rfl rfl rfl rfl U40 (Ev.opt rfl (fun h => h)) optS ?_
 refine ρb ?_
 refine ρ3 ?_
 refine ez ?_
 refine ρp (fun h0 => ?_) (fun h0 => ?_)
 · have hh : c.code < 0 ∨ 255 < c.code ∨ 20 < c.nums.length := by simp only [List.length_map, Bool.or_eq_true, decide_eq_true_eq] at h0; omega
   refine sr fun _ => ?_
   refine ma ?_
   refine mz ?_
   refine AWP.ret (thenA_r ?_)
   refine ρj (rs := [.tmp 2, .tmp 3]) (.cons (.tmp rfl) (.cons (.tmp rfl) .nil)) ?_
   have he : repE c = 2 := by rw [repE, if_pos (by omega)]
   rw [putR, if_neg (by omega), he]; rfl
 have hh : ¬ (c.code < 0 ∨ 255 < c.code ∨ 20 < c.nums.length) := by simp only [List.length_map, Bool.or_eq_false_iff, decide_eq_false_iff_not] at h0; omega
 have hwl := wrNums_len [c.code] WrS.new
 have hwl3 : WrS.new.s.length = 0 := rfl
 simp only [List.length_cons, List.length_nil] at hwl
 refine AWP.skip (thenA_n (AWP.seq ?_))
 refine ρE mixed (fun _ => ?_)
 refine ARun.build rfl rfl rfl rfl so207 .nil rfl rfl optN ?_
 refine ρ4 U93 sz36 ?_
 refine ρ7 U36 ?_
 refine ρy U40 sz3 zv3 ?_
 refine ρk cf134 ?_ (hF := fun hg => nums_R WrS.new [c.code] (by simp) (by simp [WrS.new]) (fit_one (by omega)))
 refine ρ4 U93 sz40 ?_
 refine ρ7 U40 ?_
 refine ρk cf133 ?_ (hF := fun hg => row_W (wrNums WrS.new [c.code]) c.nums (by omega) (by omega) hf)
 refine ρo (j := 0) zv207 ?_
 refine ρ1 sz207 ?_
 refine ⟨by kernel_rfl, _, _, rfl, hG, ?_⟩
 refine thenA_n (AWP.seq ?_)
 refine ρE mixed (fun _ => ?_)
 refine ρ6 (fo := 0) U207 sz9 ?_
 refine ρd U9 ?_
 refine ρ6 (fo := 2) U207 sz3 ?_
 refine ρd U3 ?_
 refine ma ?_
 refine ma ?_
 refine ⟨by kernel_rfl, _, _, rfl, hG, ?_⟩
 refine thenA_n (AWP.ret ?_)
 refine ρj (rs := [.tmp 2, .tmp 3]) (.cons (.tmp rfl) (.cons (.tmp rfl) .nil)) ?_
 rw [← (layR_e hh).1, ← (layR_e hh).2]; rfl
theorem take_R (s : ByteArray) (hs : s.size ≤ 1000000) : FnP Tryz.prog 45 [.str s] (.tup [aCl (takeC s), .int .i64 (takeE s)]) := by
 have hrl := rdRow_len (sixR s 6) 10
 refine FnP.of Tryz.func45 rfl rfl (by simp) (by simp [AV.cells, aIn, aOut, aLn, aCl, aRp]) (fun G hG => ?_)
 have hN : NoH G.length (.tup [aCl (takeC s), .int .i64 (takeE s)]) := (by simp [AV.cells, aIn, aOut, aLn, aCl, aRp])
 refine sr fun _ => ?_
 refine ρo (j := 0) zv84 ?_
 refine mz (sr fun _ => ?_)
 refine mv ?_
 refine ARun.build rfl rfl rfl rfl so119 (.cons (ep rfl) .nil) rfl rfl optN ?_
 refine ρo (j := 1) zv119 ?_
 refine ρ1 sz119 ?_
 refine ez (sr fun _ => ?_)
 refine ρo (j := 2) zv120 ?_
 refine ez ?_
 refine AWP.seq (sr fun _ => ?_)
 refine mz ?_
 refine AWP.block ?_
 refine AWP.rounds (fun (k : Nat) => k ≤ 6) (fun (k : Nat) => [(2, .box (G.length + 0) 0), (4, .box (G.length + 1) 0), (5, .box (G.length + 2) 0), (6, .int .i64 (k : Int))]) (fun (k : Nat) => [.box [.int .i64 0, .int .i64 0, .int .i64 0, .int .i64 0, .int .i64 0, .int .i64 0, .sl []], .box [.str (sixR s k).s, .int .i64 (sixR s k).at_, .str (sixR s k).p, .int .i64 (sixR s k).e], .box (cells6 s k)]) (fun (k : Nat) => 6 - k) 3 (0 : Nat) (Nat.zero_le _) (by repeat (first | exact .nil | refine .cons rfl ?_)) rfl (fun _ => rfl) (fun _ => ⟨by simp [AV.cells], by simp [AO.conts, cells6]⟩) (fun k hI => ?_)
 refine AWP.seq (sr fun _ => ?_)
 refine mv ?_
 refine ρ2 ?_
 refine ez ?_
 refine ρp (fun h0 => ?_) (fun h0 => ?_)
 · try simp [-List.getD_eq_getElem?_getD] at h0
   refine AWP.skip (thenA_n ?_)
   refine AWP.seq (AWP.block (sr fun _ => ?_))
   refine ρn U119 sz119 ?_
   refine ρh cf68 (fun hg => num_R (sixR s k) 2000000 (sixR_ok hs k)) ?_
   refine mv ?_
   refine ρ9 ?_
   refine ρ9 ?_
   refine ρo (j := 3) zv119 ?_
   refine ρ1 sz119 ?_
   refine mz (sr fun _ => ?_)
   refine ρn U119 sz119 ?_
   refine ρ1 sz119 ?_
   refine ez ?_
   refine AWP.region (fun _ => ?_)
   refine mv ?_
   refine mv ?_
   refine ARun.indexBox (fo := 0 + k * 1) rfl rfl rfl rfl U120 sz3 (ep rfl) ((hG.at _ _).trans rfl) (ep rfl) (j := k) (fun hg => by first | rfl | omega) (fun hg => by first | decide | omega) rfl optN ?_
   refine ARun.storeL1 hG rfl rfl rfl sz3 (ep rfl) (ep rfl) rfl (by first | rfl | exact aEr_one _ | exact aFl_one _) (by simp [cells6]; omega) (cells6_set s k (by omega)) rfl ?_ (hsp := (by first | rfl | exact plain_take rfl | exact plain_take (by simp [AV.plainC]) | exact plain_take (by simp [cells6, AV.plainC])))
   refine ⟨_, _, rfl, hG, ?_⟩
   refine blockA_n (thenA_n ?_)
   refine AWP.region (fun _ => ?_)
   refine mv ?_
   refine ρa ?_
   refine ma ?_
   refine ⟨_, _, rfl, hG, ?_⟩
   refine thenA_n ⟨rfl, k + 1, _, ?_, ?_, rfl, ?_⟩
   · omega
   · repeat (first | exact .nil | refine .cons rfl ?_)
   omega
 simp at h0
 obtain rfl : k = 6 := by omega
 rw [show cells6 s 6 = [AV.int .i64 (sixN s 0), AV.int .i64 (sixN s 1), AV.int .i64 (sixN s 2), AV.int .i64 (sixN s 3), AV.int .i64 (sixN s 4), AV.int .i64 (sixN s 5)] from rfl]
 refine AWP.exit ?_
 refine thenA_x ?_
 refine thenA_x ?_
 refine blockA_h ?_
 refine thenA_n (sr fun _ => ?_)
 refine ρn U119 sz119 ?_
 refine ρh cf69 (fun hg => row_R (sixR s 6) 10 (sixR_ok hs 6)) ?_
 refine mv ?_
 refine ρ9 ?_
 refine ρ9 ?_
 refine ρ1 sz119 ?_
 refine mz (sr fun _ => ?_)
 refine ρn U119 sz119 ?_
 refine ρm cf70 (fun hg => end_R (rdRow (sixR s 6) 10).1) ?_
 refine ρ1 sz119 ?_
 refine ez ?_
 refine AWP.seq (sr fun _ => ?_)
 refine ρ6 (fo := 3) U119 sz3 ?_
 refine ρd U3 ?_
 refine ρ2 ?_
 refine ez ?_
 refine ρp (fun h1 => ?_) (fun h1 => ?_)
 · have he : (rdCall s).1.e ≠ 0 := by
     have hq := h1
     simp at hq
     exact hq
   refine AWP.seq ?_
   refine AWP.frzBox 4 hG rfl rfl rfl ?_
   refine ρE mixed (fun _ => ?_)
   refine ARun.build rfl rfl rfl rfl so84 .nil rfl rfl optN ?_
   refine ρ4 U119 sz3 ?_
   refine ρ7 U3 ?_
   refine ρ1 sz84 ?_
   refine ma ?_
   refine ⟨by kernel_rfl, _, _, rfl, hG, ?_⟩
   refine thenA_n (AWP.ret (thenA_r ?_))
   refine ρj (rs := [.cell 2 84, .tmp 3]) (.cons (.cellA rfl ((hG.at _ _).trans rfl) U84 rfl sz84 rfl rfl) (.cons (.tmp rfl) .nil)) ?_
   have ht : takeE s = (rdCall s).1.e := by rw [takeE, if_pos he]
   rw [takeC, if_neg (by rw [ht]; exact he), ht]; rfl
 have he : (rdCall s).1.e = 0 := by
   have hq := h1
   simp at hq
   exact hq
 refine AWP.skip (thenA_n (AWP.seq (sr fun _ => ?_)))
 refine mv ?_
 refine ρv U40 ?_
 refine ARun.remI rfl rfl rfl rfl (ep rfl) (ep rfl) (fun _ => by decide) optN ?_
 refine ρ2 ?_
 refine ez ?_
 refine ρp (fun h2 => ?_) (fun h2 => ?_)
 · simp at h2
   have h1p : (((rdRow (sixR s 6) 10).2.length % 2 : Nat) : Int) = 1 := h2
   refine sr fun _ => ?_
   refine ARun.build rfl rfl rfl rfl so84 .nil rfl rfl optN ?_
   refine ρ1 sz84 ?_
   refine mz ?_
   refine AWP.ret (thenA_r ?_)
   refine ρj (rs := [.cell 2 84, .tmp 3]) (.cons (.cellA rfl ((hG.at _ _).trans rfl) U84 rfl sz84 rfl rfl) (.cons (.tmp rfl) .nil)) ?_
   have h1q : (rdCall s).2.2.length % 2 = 1 := by show (rdRow (sixR s 6) 10).2.length % 2 = 1; omega
   have ht : takeE s = 5 := by rw [takeE, if_neg (by omega), if_pos h1q]
   rw [takeC, if_neg (by rw [ht]; decide), ht]; rfl
 simp at h2
 have h1p : ¬ (((rdRow (sixR s 6) 10).2.length % 2 : Nat) : Int) = 1 := h2
 refine AWP.skip (thenA_n (sr fun _ => ?_))
 refine ARun.indexBox (fo := 0) rfl rfl rfl rfl U120 sz3 (ep rfl) ((hG.at _ _).trans rfl) (ep rfl) (j := 0) (fun hg => by first | rfl | omega) (fun hg => by first | decide | omega) rfl optN ?_
 refine ρd U3 ?_
 refine ARun.indexBox (fo := 1) rfl rfl rfl rfl U120 sz3 (ep rfl) ((hG.at _ _).trans rfl) (ep rfl) (j := 1) (fun hg => by first | rfl | omega) (fun hg => by first | decide | omega) rfl optN ?_
 refine ρd U3 ?_
 refine ARun.indexBox (fo := 2) rfl rfl rfl rfl U120 sz3 (ep rfl) ((hG.at _ _).trans rfl) (ep rfl) (j := 2) (fun hg => by first | rfl | omega) (fun hg => by first | decide | omega) rfl optN ?_
 refine ρd U3 ?_
 refine ARun.indexBox (fo := 3) rfl rfl rfl rfl U120 sz3 (ep rfl) ((hG.at _ _).trans rfl) (ep rfl) (j := 3) (fun hg => by first | rfl | omega) (fun hg => by first | decide | omega) rfl optN ?_
 refine ρd U3 ?_
 refine ARun.indexBox (fo := 4) rfl rfl rfl rfl U120 sz3 (ep rfl) ((hG.at _ _).trans rfl) (ep rfl) (j := 4) (fun hg => by first | rfl | omega) (fun hg => by first | decide | omega) rfl optN ?_
 refine ρd U3 ?_
 refine ARun.indexBox (fo := 5) rfl rfl rfl rfl U120 sz3 (ep rfl) ((hG.at _ _).trans rfl) (ep rfl) (j := 5) (fun hg => by first | rfl | omega) (fun hg => by first | decide | omega) rfl optN ?_
 refine ρd U3 ?_
 refine ARun.buildNil (e := 127) (z := 2) (j := 3) (p := 6) hG rfl rfl rfl rfl rfl so84 rfl (.cons (ep rfl) (.cons (ep rfl) (.cons (ep rfl) (.cons (ep rfl) (.cons (ep rfl) (.cons (ep rfl) .nil)))))) rfl rfl optN ?_
 refine ρo (j := 4) zv84 ?_
 refine ρ1 sz84 ?_
 refine ez ?_
 refine AWP.seq (sr fun _ => ?_)
 refine mz ?_
 refine AWP.block ?_
 refine AWP.rounds (fun st => 2 * st.1 ≤ (rdRow (sixR s 6) 10).2.length) (fun st => [(2, .box (G.length + 0) 0), (10, .box (G.length + 4) 0), (9, .sl ((rdRow (sixR s 6) 10).2.map (AV.int .i64))), (11, .int .i64 ((2 * st.1 : Nat) : Int))]) (fun st => [.box [.int .i64 0, .int .i64 0, .int .i64 0, .int .i64 0, .int .i64 0, .int .i64 0, .sl []], .box [.str (rdCall s).1.s, .int .i64 (rdCall s).1.at_, .str (rdCall s).1.p, .int .i64 (rdCall s).1.e], .box [.int .i64 (sixN s 0), .int .i64 (sixN s 1), .int .i64 (sixN s 2), .int .i64 (sixN s 3), .int .i64 (sixN s 4), .int .i64 (sixN s 5)], .row st.2 127 2 ((pairsL ((rdRow (sixR s 6) 10).2.take (2 * st.1))).map aLn), .box [.int .i64 (sixN s 0), .int .i64 (sixN s 1), .int .i64 (sixN s 2), .int .i64 (sixN s 3), .int .i64 (sixN s 4), .int .i64 (sixN s 5), .own (G.length + 3) st.2]]) (fun st => (rdRow (sixR s 6) 10).2.length - 2 * st.1) 5 ((0, 0) : Nat × Nat) (Nat.zero_le _) (by repeat (first | exact .nil | refine .cons rfl ?_)) rfl (fun _ => rfl) (fun _ => ⟨by simp [AV.cells], by simp [AO.conts, aLn, AV.cells]; rintro y a _ (rfl | rfl) <;> simp⟩) (fun st hI => ?_)
 obtain ⟨k, g⟩ := st
 dsimp only at hI
 show AWP _ _ _ _ _ [(2, .box (G.length + 0) 0), (10, .box (G.length + 4) 0), (9, .sl ((rdRow (sixR s 6) 10).2.map (AV.int .i64))), (11, .int .i64 ((2 * k : Nat) : Int))] _ [.box [.int .i64 0, .int .i64 0, .int .i64 0, .int .i64 0, .int .i64 0, .int .i64 0, .sl []], .box [.str (rdCall s).1.s, .int .i64 (rdCall s).1.at_, .str (rdCall s).1.p, .int .i64 (rdCall s).1.e], .box [.int .i64 (sixN s 0), .int .i64 (sixN s 1), .int .i64 (sixN s 2), .int .i64 (sixN s 3), .int .i64 (sixN s 4), .int .i64 (sixN s 5)], .row g 127 2 ((pairsL ((rdRow (sixR s 6) 10).2.take (2 * k))).map aLn), .box [.int .i64 (sixN s 0), .int .i64 (sixN s 1), .int .i64 (sixN s 2), .int .i64 (sixN s 3), .int .i64 (sixN s 4), .int .i64 (sixN s 5), .own (G.length + 3) g]]
 refine AWP.seq (sr fun _ => ?_)
 refine mv ?_
 refine ρa ?_
 refine mv ?_
 refine ρv U40 ?_
 refine ρ2 ?_
 refine ez ?_
 refine ρp (fun h3 => ?_) (fun h3 => ?_)
 · try simp [-List.getD_eq_getElem?_getD] at h3
   refine AWP.skip (thenA_n ?_)
   refine AWP.seq (AWP.block ?_)
   refine ρE mixed (fun _ => ?_)
   refine ρ6 (fo := 6) U84 sz82 ?_
   refine ρd U82 ?_
   refine mv ?_
   refine mv ?_
   refine ρf U40 sz3 ?_
   refine ρ7 U3 ?_
   refine mv ?_
   refine mv ?_
   refine ρa ?_
   refine ρ8 U40 sz3 ?_
   refine ρ7 U3 ?_
   refine ARun.build rfl rfl rfl rfl so127 (.cons (ep rfl) (.cons (ep rfl) .nil)) rfl rfl optN ?_
   refine ρy U82 sz127 zv127 ?_
   refine ARun.appendL hG rfl rfl rfl rfl U82 ti127 rfl (by decide) (ep rfl) (ep rfl) rfl rfl (by have := pairsL_len (((rdRow (sixR s 6) 10).2).take (2 * k)); simp only [List.length_take] at this; simp [maxLen]; omega) (by have := pairsL_len (((rdRow (sixR s 6) 10).2).take (2 * k)); simp only [List.length_take] at this; simp; omega) (pair_snoc (rdRow (sixR s 6) 10).2 k (by omega)) optN rfl ?_
   refine ρ6 (fo := 6) U84 sz82 ?_
   refine ARun.storeL1 hG rfl rfl rfl sz82 (ep rfl) (ep rfl) rfl (by first | rfl | exact aEr_one _ | exact aFl_one _) (Nat.le_of_ble_eq_true rfl) rfl rfl ?_ (hsp := (by first | rfl | exact plain_take rfl | exact plain_take (by simp [AV.plainC]) | exact plain_take (by simp [cells6, AV.plainC])))
   refine ⟨by kernel_rfl, _, _, rfl, hG, ?_⟩
   refine blockA_n (thenA_n ?_)
   refine AWP.region (fun _ => ?_)
   refine mv ?_
   refine ρa ?_
   refine ma ?_
   refine ⟨_, _, rfl, hG, ?_⟩
   refine thenA_n ⟨rfl, (k + 1, g + 1), _, ?_, ?_, rfl, ?_⟩
   · dsimp only; omega
   · repeat (first | exact .nil | refine .cons rfl ?_)
   dsimp only; omega
 simp at h3
 have hk2 : 2 * k = (rdRow (sixR s 6) 10).2.length := by omega
 rw [hk2, List.take_length]
 refine AWP.exit ?_
 refine thenA_x ?_
 refine thenA_x ?_
 refine blockA_h ?_
 refine thenA_n (AWP.seq ?_)
 refine AWP.frzIn (j := 3) (q := 4) (p := 6) hG rfl (by have := pairsL_len (rdRow (sixR s 6) 10).2; simp [maxLen]; omega) rfl rfl rfl ?_
 refine AWP.region (fun _ => ?_)
 refine ρn U84 sz84 ?_
 refine ρA cf71 ?_ (hF := fun hg => checkR_fn (mkCall (sixL s) (rdRow (sixR s 6) 10).2) (by have := pairsL_len (rdRow (sixR s 6) 10).2; show (pairsL (rdRow (sixR s 6) 10).2).length ≤ _; omega))
 refine mz ?_
 refine AWP.seq (sr fun _ => ?_)
 refine mv ?_
 refine ρ2 ?_
 refine ez ?_
 refine ρp (fun h4 => ?_) (fun h4 => ?_)
 · simp at h4
   refine sr fun _ => ?_
   refine ARun.build rfl rfl rfl rfl so84 .nil rfl rfl optN ?_
   refine mv ?_
   refine ρ1 sz84 ?_
   refine mz ?_
   refine AWP.ret (thenA_r ?_)
   refine ρj (rs := [.cell 2 84, .tmp 3]) (.cons (.cellA rfl ((hG.at _ _).trans rfl) U84 rfl sz84 rfl rfl) (.cons (.tmp rfl) .nil)) ?_
   have h1q : ¬ (rdCall s).2.2.length % 2 = 1 := by show ¬ (rdRow (sixR s 6) 10).2.length % 2 = 1; omega
   have ht : takeE s = checkP (mkCall (sixL s) (rdRow (sixR s 6) 10).2) := by rw [takeE, if_neg (by omega), if_neg h1q]; rfl
   rw [takeC, if_neg (by rw [ht]; exact h4), ht]; rfl
 simp at h4
 refine AWP.skip (thenA_n (sr fun _ => ?_))
 refine ρn U84 sz84 ?_
 refine ρ1 sz84 ?_
 refine mz ?_
 refine AWP.ret ?_
 refine ρj (rs := [.cell 2 84, .tmp 3]) (.cons (.cellA rfl ((hG.at _ _).trans rfl) U84 rfl sz84 rfl rfl) (.cons (.tmp rfl) .nil)) ?_
 have h1q : ¬ (rdCall s).2.2.length % 2 = 1 := by show ¬ (rdRow (sixR s 6) 10).2.length % 2 = 1; omega
 have ht : takeE s = 0 := by rw [takeE, if_neg (by omega), if_neg h1q]; exact h4
 rw [takeC, if_pos ht, ht]; rfl
end Go.Proofs.YtcndnllmlhhjiaaGreatDoor
namespace Go.Proofs.YtcndnllmlhhjiaaGreatDoor
open Go.RowKit
open NumP
def aSt (s : St) : AV := .agg [.sl (s.1.map Stk.aIt), .sl (s.2.map Ssn.aSe)]
theorem cloneIt_fn (l : Its) (hl : l.length ≤ 1000000) : FnP Tryz.prog 57 [.sl (l.map Stk.aIt)] (.sl (l.map Stk.aIt)) :=
 FnP.of_owns Stk.encIt Stk.aIt 4 Stk.encIt_len (fun x => rfl) (fun x u hu => by simp [Stk.encIt] at hu; rcases hu with rfl | rfl | rfl | rfl <;> rfl) l (fun w a cap hr _ _ _ => Stk.cloneIt_any a cap l w hr hl)
theorem okE_two {l : Its} (h : ¬ Stk.okE l = 0) : Stk.okE l = 2 := by unfold Stk.okE at h ⊢; split <;> simp_all
theorem chk_two {s : St} (h : ¬ chkP s = 0) : chkP s = 2 := by unfold chkP at h ⊢; split <;> simp_all
theorem do_0 {l : Its} {c : Cl} (h : ¬ Stk.okE l = 0) : doP l c = (l, ⟨2, []⟩) := if_neg h
theorem do_1 {l : Its} {c : Cl} (h : Stk.okE l = 0) (h1 : ¬ checkP c = 0) : doP l c = (l, ⟨checkP c, []⟩) := by unfold doP; rw [if_pos h, if_neg h1]
theorem do_2 {l : Its} {c : Cl} (h : Stk.okE l = 0) (h1 : checkP c = 0) : doP l c = kindR l c := by unfold doP; rw [if_pos h, if_pos h1]
theorem kind_6 {l : Its} {c : Cl} (h : c.kind = 6) : kindR l c = moveR l c := if_pos h
theorem kind_7 {l : Its} {c : Cl} (h : c.kind = 7) : kindR l c = queryR l c := by unfold kindR; rw [if_neg (by omega), if_pos h]
theorem kind_8 {l : Its} {c : Cl} (h : c.kind = 8) : kindR l c = orderR l c := by unfold kindR; rw [if_neg (by omega), if_neg (by omega), if_pos h]
theorem kind_o {l : Its} {c : Cl} (h : c.kind ≠ 6 ∧ c.kind ≠ 7 ∧ c.kind ≠ 8) : kindR l c = oneR l c := by unfold kindR; rw [if_neg h.1, if_neg h.2.1, if_neg h.2.2]
theorem oneR_y {l : Its} {c : Cl} {m : Its × Int} (hm : oneP l c = m) (h : m.2 = 0) : oneR l c = (m.1, ⟨0, numsP m.1 c.item⟩) := by subst hm; exact if_pos h
theorem oneR_n {l : Its} {c : Cl} {m : Its × Int} (hm : oneP l c = m) (h : ¬ m.2 = 0) : oneR l c = (l, ⟨m.2, []⟩) := by subst hm; exact if_neg h
theorem one_1 {l : Its} {c : Cl} (h : c.kind = 1) : oneP l c = Stk.createP l c.item c.qty := if_pos h
theorem one_2 {l : Its} {c : Cl} (h : c.kind = 2) : oneP l c = StockP.withP (StockP.inG c.qty) l c.item c.qty := by unfold oneP; rw [if_neg (by omega), if_pos h]
theorem one_3 {l : Its} {c : Cl} (h : c.kind = 3) : oneP l c = StockP.withP (StockP.holdG c.qty) l c.item c.qty := by unfold oneP; rw [if_neg (by omega), if_neg (by omega), if_pos h]
theorem one_4 {l : Its} {c : Cl} (h : c.kind = 4) : oneP l c = StockP.withP (StockP.freeG c.qty) l c.item c.qty := by unfold oneP; rw [if_neg (by omega), if_neg (by omega), if_neg (by omega), if_pos h]
theorem one_5 {l : Its} {c : Cl} (h : c.kind = 5) : oneP l c = StockP.withP (StockP.shipG c.qty) l c.item c.qty := by unfold oneP; rw [if_neg (by omega), if_neg (by omega), if_neg (by omega), if_neg (by omega)]
theorem one_len (l : Its) (i q : Int) : (Stk.createP l i q).1.length ≤ l.length + 1 ∧ (StockP.withP (StockP.inG q) l i q).1.length ≤ l.length ∧ (StockP.withP (StockP.holdG q) l i q).1.length ≤ l.length ∧ (StockP.withP (StockP.freeG q) l i q).1.length ≤ l.length ∧ (StockP.withP (StockP.shipG q) l i q).1.length ≤ l.length := ⟨Stk.create_len l i q, Stk.with_len _ l i q, Stk.with_len _ l i q, Stk.with_len _ l i q, Stk.with_len _ l i q⟩
theorem goesM_2 (l : Its) (id q : Int) : Stk.goesM l id q 2 = StockP.withP (StockP.freeG q) l id q := by unfold Stk.goesM; rw [if_neg (by decide), if_pos rfl]
theorem goesM_3 (l : Its) (id q : Int) : Stk.goesM l id q 3 = StockP.withP (StockP.shipG q) l id q := by unfold Stk.goesM; rw [if_neg (by decide), if_neg (by decide)]
theorem toldS_fn (l : Its) (id : Int) (hl : l.length ≤ 1000) : FnP Tryz.prog 152 [.sl (l.map Stk.aIt), .int .i64 id] (aRp ⟨0, numsP l id⟩) := by
 refine FnP.of Tryz.func152 rfl rfl (by simp) (by simp [AV.cells, aIn, aOut, aLn, aCl, aRp, Stk.aIt, Ssn.aSe, aSt]) (fun G hG => ?_)
 have hN : NoH G.length (aRp ⟨0, numsP l id⟩) := (by simp [AV.cells, aIn, aOut, aLn, aCl, aRp, Stk.aIt, Ssn.aSe, aSt])
 refine sr fun _ => ?_
 refine ρo (j := 0) zv93 ?_
 refine ez (sr fun _ => ?_)
 refine mv ?_
 refine mv ?_
 refine ρk cf151 ?_ (hF := fun hg => Stk.find_fn l id (by omega))
 refine mv ?_
 refine ρ9 ?_
 refine ρ9 ?_
 refine ρo (j := 1) zv108 ?_
 refine ρ1 sz108 ?_
 refine mz (sr fun _ => ?_)
 refine ρ6 (fo := 1) U108 sz3 ?_
 refine ρd U3 ?_
 refine ρ6 (fo := 2) U108 sz3 ?_
 refine ρd U3 ?_
 refine ρ6 (fo := 3) U108 sz3 ?_
 refine ρd U3 ?_
 refine ARun.buildSl rfl rfl rfl rfl U40 sz3 zv3 rfl (by decide) (.cons (ep rfl) (.cons (ep rfl) (.cons (ep rfl) .nil))) rfl rfl rfl rfl (by decide) rfl rfl optN ?_
 refine ρk cf51 ?_ (hF := fun hg => told_fn 0 [(tF l id).free, (tF l id).held, (tF l id).gone] (by simp))
 refine ρ1 sz93 ?_
 refine ez ?_
 refine AWP.ret ?_
 refine endF.one (.inr rfl) rfl (.cellA rfl ((hG.at _ _).trans rfl) U93 rfl sz93 rfl rfl) ?_ hN
 rfl
theorem numbers_fn (l : Its) (id : Int) (hl : l.length ≤ 1000) : FnP Tryz.prog 101 [.sl (l.map Stk.aIt), .int .i64 id] (.sl ((numsP l id).map (AV.int .i64))) := by
 refine FnP.of Tryz.func101 rfl rfl (by simp) (by simp [AV.cells, aIn, aOut, aLn, aCl, aRp, Stk.aIt, Ssn.aSe, aSt]) (fun G hG => ?_)
 have hN : NoH G.length (.sl ((numsP l id).map (AV.int .i64))) := (by simp [AV.cells, aIn, aOut, aLn, aCl, aRp, Stk.aIt, Ssn.aSe, aSt])
 refine sr fun _ => ?_
 refine mz (sr fun _ => ?_)
 refine mv ?_
 refine mv ?_
 refine ρk cf98 ?_ (hF := fun hg => Stk.findR_fn l id (by omega))
 refine mv ?_
 refine ρ9 ?_
 refine ρ9 ?_
 refine ρo (j := 0) zv108 ?_
 refine ρ1 sz108 ?_
 refine mz (sr fun _ => ?_)
 refine ρ6 (fo := 1) U108 sz3 ?_
 refine ρd U3 ?_
 refine ρ6 (fo := 2) U108 sz3 ?_
 refine ρd U3 ?_
 refine ρ6 (fo := 3) U108 sz3 ?_
 refine ρd U3 ?_
 refine ARun.buildSl rfl rfl rfl rfl U40 sz3 zv3 rfl (by decide) (.cons (ep rfl) (.cons (ep rfl) (.cons (ep rfl) .nil))) rfl rfl rfl rfl (by decide) rfl rfl optN ?_
 refine mz ?_
 refine AWP.ret ?_
 refine ρi ?_
 rfl
theorem toldR_fn (e : Int) (l : List Int) : FnP Tryz.prog 59 [.int .i64 e, .sl (l.map (AV.int .i64))] (aRp ⟨e, l⟩) := by
 refine FnP.of Tryz.func59 rfl rfl (by simp) (by simp [AV.cells, aIn, aOut, aLn, aCl, aRp, Stk.aIt, Ssn.aSe, aSt]) (fun G hG => ?_)
 have hN : NoH G.length (aRp ⟨e, l⟩) := (by simp [AV.cells, aIn, aOut, aLn, aCl, aRp, Stk.aIt, Ssn.aSe, aSt])
 refine sr fun _ => ?_
 refine ρo (j := 0) zv93 ?_
 refine ez (sr fun _ => ?_)
 refine mv ?_
 refine mv ?_
 refine ARun.build rfl rfl rfl rfl so93 (.cons (ep rfl) (.cons (ep rfl) .nil)) rfl rfl optN ?_
 refine ρ1 sz93 ?_
 refine ez ?_
 refine AWP.ret ?_
 refine endF.one (.inr rfl) rfl (.cellA rfl ((hG.at _ _).trans rfl) U93 rfl sz93 rfl rfl) ?_ hN
 rfl
theorem one1_fn (l : Its) (c : Cl) (hl : l.length ≤ 100) (hk : c.kind = 1) : FnP Tryz.prog 129 [.sl (l.map Stk.aIt), aCl c] (.tup [.sl ((oneR l c).1.map Stk.aIt), aRp (oneR l c).2]) := by
 have hol := one_len l c.item c.qty
 refine FnP.of Tryz.func129 rfl rfl (by simp) (by simp [AV.cells, aIn, aOut, aLn, aCl, aRp, Stk.aIt, Ssn.aSe, aSt]) (fun G hG => ?_)
 have hN : NoH G.length (.tup [.sl ((oneR l c).1.map Stk.aIt), aRp (oneR l c).2]) := (by simp [AV.cells, aIn, aOut, aLn, aCl, aRp, Stk.aIt, Ssn.aSe, aSt])
 refine sr fun _ => ?_
 refine ρz ?_
 refine ma ?_
 refine ρo (j := 0) zv93 ?_
 refine ez (sr fun _ => ?_)
 refine mz (sr fun _ => ?_)
 refine mz ?_
 refine AWP.seq (sr fun _ => ?_)
 refine ρ4 U84 sz3 ?_
 refine ρ7 U3 ?_
 refine ez ?_
 refine AWP.block (sr fun _ => ?_)
 refine ρ2 ?_
 refine mz ?_
 refine ρp (fun h0 => ?_) (fun h0 => ?_)
 · refine AWP.region (fun _ => ?_)
   refine mv ?_
   refine ρ4 U84 sz3 ?_
   refine ρ7 U3 ?_
   refine ρ4 U84 sz3 ?_
   refine ρ7 U3 ?_
   refine ARun.call rfl rfl rfl rfl cf155 (ep rfl) (.cons (ep rfl) (.cons (ep rfl) (.cons (ep rfl) .nil))) rfl (fun hg => Stk.create_fn l c.item c.qty (by omega)) optN ?_
   refine mv ?_
   refine ρ9 ?_
   refine ρ9 ?_
   refine ma ?_
   refine ma ?_
   refine ⟨_, _, rfl, hG, ?_⟩
   refine blockA_n (thenA_n (AWP.seq ?_))
   refine sr fun _ => ?_
   refine mv ?_
   refine ρ2 ?_
   refine ez ?_
   refine ρp (fun h1 => ?_) (fun h1 => ?_)
   · simp at h1
     refine sr fun _ => ?_
     refine mv ?_
     refine mv ?_
     refine ρk cf51 ?_ (hF := fun hg => told_fn (Stk.createP l c.item c.qty).2 [] (by simp))
     refine ma ?_
     refine ρ1 sz93 ?_
     refine ez ?_
     refine AWP.ret (thenA_r ?_)
     refine ρj (rs := [.tmp 4, .cell 5 93]) (.cons (.tmp rfl) (.cons (.cellA rfl ((hG.at _ _).trans rfl) U93 rfl sz93 rfl rfl) .nil)) ?_
     rw [oneR_n (one_1 hk) h1]; rfl
   simp at h1
   refine AWP.skip (thenA_n (sr fun _ => ?_))
   refine mv ?_
   refine mv ?_
   refine ρ4 U84 sz3 ?_
   refine ρ7 U3 ?_
   refine ρk cf152 ?_ (hF := fun hg => toldS_fn (Stk.createP l c.item c.qty).1 c.item (by omega))
   refine ma ?_
   refine ρ1 sz93 ?_
   refine ez ?_
   refine AWP.ret ?_
   refine ρj (rs := [.tmp 4, .cell 5 93]) (.cons (.tmp rfl) (.cons (.cellA rfl ((hG.at _ _).trans rfl) U93 rfl sz93 rfl rfl) .nil)) ?_
   rw [oneR_y (one_1 hk) h1]; rfl
 simp [hk] at h0
theorem one2_fn (l : Its) (c : Cl) (hl : l.length ≤ 100) (hk : c.kind = 2) : FnP Tryz.prog 129 [.sl (l.map Stk.aIt), aCl c] (.tup [.sl ((oneR l c).1.map Stk.aIt), aRp (oneR l c).2]) := by
 have hol := one_len l c.item c.qty
 refine FnP.of Tryz.func129 rfl rfl (by simp) (by simp [AV.cells, aIn, aOut, aLn, aCl, aRp, Stk.aIt, Ssn.aSe, aSt]) (fun G hG => ?_)
 have hN : NoH G.length (.tup [.sl ((oneR l c).1.map Stk.aIt), aRp (oneR l c).2]) := (by simp [AV.cells, aIn, aOut, aLn, aCl, aRp, Stk.aIt, Ssn.aSe, aSt])
 refine sr fun _ => ?_
 refine ρz ?_
 refine ma ?_
 refine ρo (j := 0) zv93 ?_
 refine ez (sr fun _ => ?_)
 refine mz (sr fun _ => ?_)
 refine mz ?_
 refine AWP.seq (sr fun _ => ?_)
 refine ρ4 U84 sz3 ?_
 refine ρ7 U3 ?_
 refine ez ?_
 refine AWP.block (sr fun _ => ?_)
 refine ρ2 ?_
 refine mz ?_
 refine ρp (fun h0 => ?_) (fun h0 => ?_)
 · simp [hk] at h0
 refine sr fun _ => ?_
 refine ρ2 ?_
 refine mz ?_
 refine ρp (fun h1 => ?_) (fun h1 => ?_)
 · refine AWP.region (fun _ => ?_)
   refine mv ?_
   refine ρ4 U84 sz3 ?_
   refine ρ7 U3 ?_
   refine ρ4 U84 sz3 ?_
   refine ρ7 U3 ?_
   refine ARun.call rfl rfl rfl rfl cf156 (ep rfl) (.cons (ep rfl) (.cons (ep rfl) (.cons (ep rfl) .nil))) rfl (fun hg => Stk.restock_fn l c.item c.qty (by omega)) optN ?_
   refine mv ?_
   refine ρ9 ?_
   refine ρ9 ?_
   refine ma ?_
   refine ma ?_
   refine ⟨_, _, rfl, hG, ?_⟩
   refine blockA_n (thenA_n (AWP.seq ?_))
   refine sr fun _ => ?_
   refine mv ?_
   refine ρ2 ?_
   refine ez ?_
   refine ρp (fun h2 => ?_) (fun h2 => ?_)
   · simp at h2
     refine sr fun _ => ?_
     refine mv ?_
     refine mv ?_
     refine ρk cf51 ?_ (hF := fun hg => told_fn (StockP.withP (StockP.inG c.qty) l c.item c.qty).2 [] (by simp))
     refine ma ?_
     refine ρ1 sz93 ?_
     refine ez ?_
     refine AWP.ret (thenA_r ?_)
     refine ρj (rs := [.tmp 4, .cell 5 93]) (.cons (.tmp rfl) (.cons (.cellA rfl ((hG.at _ _).trans rfl) U93 rfl sz93 rfl rfl) .nil)) ?_
     rw [oneR_n (one_2 hk) h2]; rfl
   simp at h2
   refine AWP.skip (thenA_n (sr fun _ => ?_))
   refine mv ?_
   refine mv ?_
   refine ρ4 U84 sz3 ?_
   refine ρ7 U3 ?_
   refine ρk cf152 ?_ (hF := fun hg => toldS_fn (StockP.withP (StockP.inG c.qty) l c.item c.qty).1 c.item (by omega))
   refine ma ?_
   refine ρ1 sz93 ?_
   refine ez ?_
   refine AWP.ret ?_
   refine ρj (rs := [.tmp 4, .cell 5 93]) (.cons (.tmp rfl) (.cons (.cellA rfl ((hG.at _ _).trans rfl) U93 rfl sz93 rfl rfl) .nil)) ?_
   rw [oneR_y (one_2 hk) h2]; rfl
 simp [hk] at h1
theorem one3_fn (l : Its) (c : Cl) (hl : l.length ≤ 100) (hk : c.kind = 3) : FnP Tryz.prog 129 [.sl (l.map Stk.aIt), aCl c] (.tup [.sl ((oneR l c).1.map Stk.aIt), aRp (oneR l c).2]) := by
 have hol := one_len l c.item c.qty
 refine FnP.of Tryz.func129 rfl rfl (by simp) (by simp [AV.cells, aIn, aOut, aLn, aCl, aRp, Stk.aIt, Ssn.aSe, aSt]) (fun G hG => ?_)
 have hN : NoH G.length (.tup [.sl ((oneR l c).1.map Stk.aIt), aRp (oneR l c).2]) := (by simp [AV.cells, aIn, aOut, aLn, aCl, aRp, Stk.aIt, Ssn.aSe, aSt])
 refine sr fun _ => ?_
 refine ρz ?_
 refine ma ?_
 refine ρo (j := 0) zv93 ?_
 refine ez (sr fun _ => ?_)
 refine mz (sr fun _ => ?_)
 refine mz ?_
 refine AWP.seq (sr fun _ => ?_)
 refine ρ4 U84 sz3 ?_
 refine ρ7 U3 ?_
 refine ez ?_
 refine AWP.block (sr fun _ => ?_)
 refine ρ2 ?_
 refine mz ?_
 refine ρp (fun h0 => ?_) (fun h0 => ?_)
 · simp [hk] at h0
 refine sr fun _ => ?_
 refine ρ2 ?_
 refine mz ?_
 refine ρp (fun h1 => ?_) (fun h1 => ?_)
 · simp [hk] at h1
 refine sr fun _ => ?_
 refine ρ2 ?_
 refine mz ?_
 refine ρp (fun h2 => ?_) (fun h2 => ?_)
 · refine AWP.region (fun _ => ?_)
   refine mv ?_
   refine ρ4 U84 sz3 ?_
   refine ρ7 U3 ?_
   refine ρ4 U84 sz3 ?_
   refine ρ7 U3 ?_
   refine ARun.call rfl rfl rfl rfl cf157 (ep rfl) (.cons (ep rfl) (.cons (ep rfl) (.cons (ep rfl) .nil))) rfl (fun hg => Stk.reserve_fn l c.item c.qty (by omega)) optN ?_
   refine mv ?_
   refine ρ9 ?_
   refine ρ9 ?_
   refine ma ?_
   refine ma ?_
   refine ⟨_, _, rfl, hG, ?_⟩
   refine blockA_n (thenA_n (AWP.seq ?_))
   refine sr fun _ => ?_
   refine mv ?_
   refine ρ2 ?_
   refine ez ?_
   refine ρp (fun h3 => ?_) (fun h3 => ?_)
   · simp at h3
     refine sr fun _ => ?_
     refine mv ?_
     refine mv ?_
     refine ρk cf51 ?_ (hF := fun hg => told_fn (StockP.withP (StockP.holdG c.qty) l c.item c.qty).2 [] (by simp))
     refine ma ?_
     refine ρ1 sz93 ?_
     refine ez ?_
     refine AWP.ret (thenA_r ?_)
     refine ρj (rs := [.tmp 4, .cell 5 93]) (.cons (.tmp rfl) (.cons (.cellA rfl ((hG.at _ _).trans rfl) U93 rfl sz93 rfl rfl) .nil)) ?_
     rw [oneR_n (one_3 hk) h3]; rfl
   simp at h3
   refine AWP.skip (thenA_n (sr fun _ => ?_))
   refine mv ?_
   refine mv ?_
   refine ρ4 U84 sz3 ?_
   refine ρ7 U3 ?_
   refine ρk cf152 ?_ (hF := fun hg => toldS_fn (StockP.withP (StockP.holdG c.qty) l c.item c.qty).1 c.item (by omega))
   refine ma ?_
   refine ρ1 sz93 ?_
   refine ez ?_
   refine AWP.ret ?_
   refine ρj (rs := [.tmp 4, .cell 5 93]) (.cons (.tmp rfl) (.cons (.cellA rfl ((hG.at _ _).trans rfl) U93 rfl sz93 rfl rfl) .nil)) ?_
   rw [oneR_y (one_3 hk) h3]; rfl
 simp [hk] at h2
theorem one4_fn (l : Its) (c : Cl) (hl : l.length ≤ 100) (hk : c.kind = 4) : FnP Tryz.prog 129 [.sl (l.map Stk.aIt), aCl c] (.tup [.sl ((oneR l c).1.map Stk.aIt), aRp (oneR l c).2]) := by
 have hol := one_len l c.item c.qty
 refine FnP.of Tryz.func129 rfl rfl (by simp) (by simp [AV.cells, aIn, aOut, aLn, aCl, aRp, Stk.aIt, Ssn.aSe, aSt]) (fun G hG => ?_)
 have hN : NoH G.length (.tup [.sl ((oneR l c).1.map Stk.aIt), aRp (oneR l c).2]) := (by simp [AV.cells, aIn, aOut, aLn, aCl, aRp, Stk.aIt, Ssn.aSe, aSt])
 refine sr fun _ => ?_
 refine ρz ?_
 refine ma ?_
 refine ρo (j := 0) zv93 ?_
 refine ez (sr fun _ => ?_)
 refine mz (sr fun _ => ?_)
 refine mz ?_
 refine AWP.seq (sr fun _ => ?_)
 refine ρ4 U84 sz3 ?_
 refine ρ7 U3 ?_
 refine ez ?_
 refine AWP.block (sr fun _ => ?_)
 refine ρ2 ?_
 refine mz ?_
 refine ρp (fun h0 => ?_) (fun h0 => ?_)
 · simp [hk] at h0
 refine sr fun _ => ?_
 refine ρ2 ?_
 refine mz ?_
 refine ρp (fun h1 => ?_) (fun h1 => ?_)
 · simp [hk] at h1
 refine sr fun _ => ?_
 refine ρ2 ?_
 refine mz ?_
 refine ρp (fun h2 => ?_) (fun h2 => ?_)
 · simp [hk] at h2
 refine sr fun _ => ?_
 refine ρ2 ?_
 refine mz ?_
 refine ρp (fun h3 => ?_) (fun h3 => ?_)
 · refine AWP.region (fun _ => ?_)
   refine mv ?_
   refine ρ4 U84 sz3 ?_
   refine ρ7 U3 ?_
   refine ρ4 U84 sz3 ?_
   refine ρ7 U3 ?_
   refine ARun.call rfl rfl rfl rfl cf158 (ep rfl) (.cons (ep rfl) (.cons (ep rfl) (.cons (ep rfl) .nil))) rfl (fun hg => Stk.release_fn l c.item c.qty (by omega)) optN ?_
   refine mv ?_
   refine ρ9 ?_
   refine ρ9 ?_
   refine ma ?_
   refine ma ?_
   refine ⟨_, _, rfl, hG, ?_⟩
   refine blockA_n (thenA_n (AWP.seq ?_))
   refine sr fun _ => ?_
   refine mv ?_
   refine ρ2 ?_
   refine ez ?_
   refine ρp (fun h4 => ?_) (fun h4 => ?_)
   · simp at h4
     refine sr fun _ => ?_
     refine mv ?_
     refine mv ?_
     refine ρk cf51 ?_ (hF := fun hg => told_fn (StockP.withP (StockP.freeG c.qty) l c.item c.qty).2 [] (by simp))
     refine ma ?_
     refine ρ1 sz93 ?_
     refine ez ?_
     refine AWP.ret (thenA_r ?_)
     refine ρj (rs := [.tmp 4, .cell 5 93]) (.cons (.tmp rfl) (.cons (.cellA rfl ((hG.at _ _).trans rfl) U93 rfl sz93 rfl rfl) .nil)) ?_
     rw [oneR_n (one_4 hk) h4]; rfl
   simp at h4
   refine AWP.skip (thenA_n (sr fun _ => ?_))
   refine mv ?_
   refine mv ?_
   refine ρ4 U84 sz3 ?_
   refine ρ7 U3 ?_
   refine ρk cf152 ?_ (hF := fun hg => toldS_fn (StockP.withP (StockP.freeG c.qty) l c.item c.qty).1 c.item (by omega))
   refine ma ?_
   refine ρ1 sz93 ?_
   refine ez ?_
   refine AWP.ret ?_
   refine ρj (rs := [.tmp 4, .cell 5 93]) (.cons (.tmp rfl) (.cons (.cellA rfl ((hG.at _ _).trans rfl) U93 rfl sz93 rfl rfl) .nil)) ?_
   rw [oneR_y (one_4 hk) h4]; rfl
 simp [hk] at h3
theorem one5_fn (l : Its) (c : Cl) (hl : l.length ≤ 100) (hk : c.kind = 5) : FnP Tryz.prog 129 [.sl (l.map Stk.aIt), aCl c] (.tup [.sl ((oneR l c).1.map Stk.aIt), aRp (oneR l c).2]) := by
 have hol := one_len l c.item c.qty
 refine FnP.of Tryz.func129 rfl rfl (by simp) (by simp [AV.cells, aIn, aOut, aLn, aCl, aRp, Stk.aIt, Ssn.aSe, aSt]) (fun G hG => ?_)
 have hN : NoH G.length (.tup [.sl ((oneR l c).1.map Stk.aIt), aRp (oneR l c).2]) := (by simp [AV.cells, aIn, aOut, aLn, aCl, aRp, Stk.aIt, Ssn.aSe, aSt])
 refine sr fun _ => ?_
 refine ρz ?_
 refine ma ?_
 refine ρo (j := 0) zv93 ?_
 refine ez (sr fun _ => ?_)
 refine mz (sr fun _ => ?_)
 refine mz ?_
 refine AWP.seq (sr fun _ => ?_)
 refine ρ4 U84 sz3 ?_
 refine ρ7 U3 ?_
 refine ez ?_
 refine AWP.block (sr fun _ => ?_)
 refine ρ2 ?_
 refine mz ?_
 refine ρp (fun h0 => ?_) (fun h0 => ?_)
 · simp [hk] at h0
 refine sr fun _ => ?_
 refine ρ2 ?_
 refine mz ?_
 refine ρp (fun h1 => ?_) (fun h1 => ?_)
 · simp [hk] at h1
 refine sr fun _ => ?_
 refine ρ2 ?_
 refine mz ?_
 refine ρp (fun h2 => ?_) (fun h2 => ?_)
 · simp [hk] at h2
 refine sr fun _ => ?_
 refine ρ2 ?_
 refine mz ?_
 refine ρp (fun h3 => ?_) (fun h3 => ?_)
 · simp [hk] at h3
 refine AWP.region (fun _ => ?_)
 refine mv ?_
 refine ρ4 U84 sz3 ?_
 refine ρ7 U3 ?_
 refine ρ4 U84 sz3 ?_
 refine ρ7 U3 ?_
 refine ARun.call rfl rfl rfl rfl cf159 (ep rfl) (.cons (ep rfl) (.cons (ep rfl) (.cons (ep rfl) .nil))) rfl (fun hg => Stk.ship_fn l c.item c.qty (by omega)) optN ?_
 refine mv ?_
 refine ρ9 ?_
 refine ρ9 ?_
 refine ma ?_
 refine ma ?_
 refine ⟨_, _, rfl, hG, ?_⟩
 refine blockA_n (thenA_n (AWP.seq ?_))
 refine sr fun _ => ?_
 refine mv ?_
 refine ρ2 ?_
 refine ez ?_
 refine ρp (fun h4 => ?_) (fun h4 => ?_)
 · simp at h4
   refine sr fun _ => ?_
   refine mv ?_
   refine mv ?_
   refine ρk cf51 ?_ (hF := fun hg => told_fn (StockP.withP (StockP.shipG c.qty) l c.item c.qty).2 [] (by simp))
   refine ma ?_
   refine ρ1 sz93 ?_
   refine ez ?_
   refine AWP.ret (thenA_r ?_)
   refine ρj (rs := [.tmp 4, .cell 5 93]) (.cons (.tmp rfl) (.cons (.cellA rfl ((hG.at _ _).trans rfl) U93 rfl sz93 rfl rfl) .nil)) ?_
   rw [oneR_n (one_5 hk) h4]; rfl
 simp at h4
 refine AWP.skip (thenA_n (sr fun _ => ?_))
 refine mv ?_
 refine mv ?_
 refine ρ4 U84 sz3 ?_
 refine ρ7 U3 ?_
 refine ρk cf152 ?_ (hF := fun hg => toldS_fn (StockP.withP (StockP.shipG c.qty) l c.item c.qty).1 c.item (by omega))
 refine ma ?_
 refine ρ1 sz93 ?_
 refine ez ?_
 refine AWP.ret ?_
 refine ρj (rs := [.tmp 4, .cell 5 93]) (.cons (.tmp rfl) (.cons (.cellA rfl ((hG.at _ _).trans rfl) U93 rfl sz93 rfl rfl) .nil)) ?_
 rw [oneR_y (one_5 hk) h4]; rfl
theorem one_fn (l : Its) (c : Cl) (hl : l.length ≤ 100) (hk : 1 ≤ c.kind ∧ c.kind ≤ 5) : FnP Tryz.prog 129 [.sl (l.map Stk.aIt), aCl c] (.tup [.sl ((oneR l c).1.map Stk.aIt), aRp (oneR l c).2]) := by
 rcases (show c.kind = 1 ∨ c.kind = 2 ∨ c.kind = 3 ∨ c.kind = 4 ∨ c.kind = 5 by omega) with h | h | h | h | h
 · exact one1_fn l c hl h
 · exact one2_fn l c hl h
 · exact one3_fn l c hl h
 · exact one4_fn l c hl h
 exact one5_fn l c hl h
theorem moveS_fn (l : Its) (c : Cl) (hl : l.length ≤ 100) : FnP Tryz.prog 126 [.sl (l.map Stk.aIt), aCl c] (.tup [.sl ((moveR l c).1.map Stk.aIt), aRp (moveR l c).2]) := by
 have hml : (mvP l c).1.length ≤ l.length := Stk.move_len l c.item c.to_ c.qty
 refine FnP.of Tryz.func126 rfl rfl (by simp) (by simp [AV.cells, aIn, aOut, aLn, aCl, aRp, Stk.aIt, Ssn.aSe, aSt]) (fun G hG => ?_)
 have hN : NoH G.length (.tup [.sl ((moveR l c).1.map Stk.aIt), aRp (moveR l c).2]) := (by simp [AV.cells, aIn, aOut, aLn, aCl, aRp, Stk.aIt, Ssn.aSe, aSt])
 refine sr fun _ => ?_
 refine ρz ?_
 refine ma ?_
 refine ρo (j := 0) zv93 ?_
 refine ez (sr fun _ => ?_)
 refine mv ?_
 refine ρ4 U84 sz3 ?_
 refine ρ7 U3 ?_
 refine ρ4 U84 sz3 ?_
 refine ρ7 U3 ?_
 refine ρ4 U84 sz3 ?_
 refine ρ7 U3 ?_
 refine ARun.call rfl rfl rfl rfl cf150 (ep rfl) (.cons (ep rfl) (.cons (ep rfl) (.cons (ep rfl) (.cons (ep rfl) .nil)))) rfl (fun hg => Stk.move_fn l c.item c.to_ c.qty (by omega)) optN ?_
 refine mv ?_
 refine ρ9 ?_
 refine ρ9 ?_
 refine ma ?_
 refine mz ?_
 refine AWP.seq (sr fun _ => ?_)
 refine mv ?_
 refine ρ2 ?_
 refine ez ?_
 refine ρp (fun h0 => ?_) (fun h0 => ?_)
 · simp at h0
   refine sr fun _ => ?_
   refine mv ?_
   refine mv ?_
   refine ρk cf51 ?_ (hF := fun hg => told_fn (mvP l c).2 [] (by simp))
   refine ma ?_
   refine ρ1 sz93 ?_
   refine ez ?_
   refine AWP.ret (thenA_r ?_)
   refine ρj (rs := [.tmp 4, .cell 5 93]) (.cons (.tmp rfl) (.cons (.cellA rfl ((hG.at _ _).trans rfl) U93 rfl sz93 rfl rfl) .nil)) ?_
   rw [moveR, if_neg h0]; rfl
 simp at h0
 refine AWP.skip (thenA_n (sr fun _ => ?_))
 refine mv ?_
 refine ρ4 U84 sz3 ?_
 refine ρ7 U3 ?_
 refine ρk cf151 ?_ (hF := fun hg => Stk.find_fn (mvP l c).1 c.item (by omega))
 refine mv ?_
 refine ρ9 ?_
 refine ρ9 ?_
 refine ρo (j := 1) zv108 ?_
 refine ρ1 sz108 ?_
 refine mz (sr fun _ => ?_)
 refine mv ?_
 refine ρ4 U84 sz3 ?_
 refine ρ7 U3 ?_
 refine ρk cf151 ?_ (hF := fun hg => Stk.find_fn (mvP l c).1 c.to_ (by omega))
 refine mv ?_
 refine ρ9 ?_
 refine ρ9 ?_
 refine ρo (j := 2) zv108 ?_
 refine ρ1 sz108 ?_
 refine mz (sr fun _ => ?_)
 refine mv ?_
 refine ρ6 (fo := 1) U108 sz3 ?_
 refine ρd U3 ?_
 refine ρ6 (fo := 1) U108 sz3 ?_
 refine ρd U3 ?_
 refine ARun.buildSl rfl rfl rfl rfl U40 sz3 zv3 rfl (by decide) (.cons (ep rfl) (.cons (ep rfl) .nil)) rfl rfl rfl rfl (by decide) rfl rfl optN ?_
 refine ρk cf51 ?_ (hF := fun hg => told_fn 0 [(tF (mvP l c).1 c.item).free, (tF (mvP l c).1 c.to_).free] (by simp))
 refine ma ?_
 refine ρ1 sz93 ?_
 refine ez ?_
 refine AWP.ret ?_
 refine ρj (rs := [.tmp 4, .cell 5 93]) (.cons (.tmp rfl) (.cons (.cellA rfl ((hG.at _ _).trans rfl) U93 rfl sz93 rfl rfl) .nil)) ?_
 rw [moveR, if_pos h0]; rfl
theorem queryS_fn (l : Its) (c : Cl) (hl : l.length ≤ 100) : FnP Tryz.prog 127 [.sl (l.map Stk.aIt), aCl c] (.tup [.sl ((queryR l c).1.map Stk.aIt), aRp (queryR l c).2]) := by
 refine FnP.of Tryz.func127 rfl rfl (by simp) (by simp [AV.cells, aIn, aOut, aLn, aCl, aRp, Stk.aIt, Ssn.aSe, aSt]) (fun G hG => ?_)
 have hN : NoH G.length (.tup [.sl ((queryR l c).1.map Stk.aIt), aRp (queryR l c).2]) := (by simp [AV.cells, aIn, aOut, aLn, aCl, aRp, Stk.aIt, Ssn.aSe, aSt])
 refine sr fun _ => ?_
 refine ρz ?_
 refine ma ?_
 refine ρo (j := 0) zv93 ?_
 refine ez ?_
 refine AWP.seq (sr fun _ => ?_)
 refine mv ?_
 refine ρ4 U84 sz3 ?_
 refine ρ7 U3 ?_
 refine ρk cf151 ?_ (hF := fun hg => Stk.find_fn l c.item (by omega))
 refine mv ?_
 refine ρ9 ?_
 refine ρ9 ?_
 refine ρo (j := 1) zv108 ?_
 refine ρ1 sz108 ?_
 refine mz (sr fun _ => ?_)
 refine mv ?_
 refine ρC ?_
 refine ez ?_
 refine ρp (fun h0 => ?_) (fun h0 => ?_)
 · simp at h0
   refine sr fun _ => ?_
   refine mv ?_
   refine ρk cf51 ?_ (hF := fun hg => told_fn 40 [] (by simp))
   refine ma ?_
   refine ρ1 sz93 ?_
   refine ez ?_
   refine AWP.ret (thenA_r ?_)
   refine ρj (rs := [.tmp 4, .cell 5 93]) (.cons (.tmp rfl) (.cons (.cellA rfl ((hG.at _ _).trans rfl) U93 rfl sz93 rfl rfl) .nil)) ?_
   rw [queryR, if_neg (by simp [h0])]; rfl
 simp at h0
 refine AWP.skip (thenA_n (sr fun _ => ?_))
 refine mv ?_
 refine mv ?_
 refine ρ4 U84 sz3 ?_
 refine ρ7 U3 ?_
 refine ρk cf152 ?_ (hF := fun hg => toldS_fn l c.item (by omega))
 refine ma ?_
 refine ρ1 sz93 ?_
 refine ez ?_
 refine AWP.ret ?_
 refine ρj (rs := [.tmp 4, .cell 5 93]) (.cons (.tmp rfl) (.cons (.cellA rfl ((hG.at _ _).trans rfl) U93 rfl sz93 rfl rfl) .nil)) ?_
 rw [queryR, if_pos h0]; rfl
theorem orderS_fn (l : Its) (c : Cl) (hl : l.length ≤ 100) (hc : c.lines.length ≤ 1000) : FnP Tryz.prog 128 [.sl (l.map Stk.aIt), aCl c] (.tup [.sl ((orderR l c).1.map Stk.aIt), aRp (orderR l c).2]) := by
 refine FnP.of Tryz.func128 rfl rfl (by simp) (by simp [AV.cells, aIn, aOut, aLn, aCl, aRp, Stk.aIt, Ssn.aSe, aSt]) (fun G hG => ?_)
 have hN : NoH G.length (.tup [.sl ((orderR l c).1.map Stk.aIt), aRp (orderR l c).2]) := (by simp [AV.cells, aIn, aOut, aLn, aCl, aRp, Stk.aIt, Ssn.aSe, aSt])
 refine sr fun _ => ?_
 refine ρz ?_
 refine ma ?_
 refine ρo (j := 0) zv93 ?_
 refine ez (sr fun _ => ?_)
 refine mv ?_
 refine ρ4 U84 sz82 ?_
 refine ρ7 U82 ?_
 refine ρk cf153 ?_ (hF := fun hg => Stk.holdB_fn l c.lines (by omega))
 refine mv ?_
 refine ρ9 ?_
 refine ρ9 ?_
 refine ρ9 ?_
 refine ma ?_
 refine ma ?_
 refine mz ?_
 refine AWP.seq (sr fun _ => ?_)
 refine mv ?_
 refine ρ2 ?_
 refine ez ?_
 refine ρp (fun h0 => ?_) (fun h0 => ?_)
 · simp at h0
   refine sr fun _ => ?_
   refine mv ?_
   refine mv ?_
   refine mv ?_
   refine ρy U40 sz3 zv3 ?_
   refine ρk cf51 ?_ (hF := fun hg => told_fn (orP l c).2.2 [(orP l c).2.1] (by simp))
   refine ma ?_
   refine ρ1 sz93 ?_
   refine ez ?_
   refine AWP.ret (thenA_r ?_)
   refine ρj (rs := [.tmp 4, .cell 5 93]) (.cons (.tmp rfl) (.cons (.cellA rfl ((hG.at _ _).trans rfl) U93 rfl sz93 rfl rfl) .nil)) ?_
   rw [orderR, if_neg h0]; rfl
 simp at h0
 refine AWP.skip (thenA_n (sr fun _ => ?_))
 refine mv ?_
 refine ρ4 U84 sz82 ?_
 refine ρ7 U82 ?_
 refine ρm cf154 (fun hg => Stk.total_fn c.lines hc) ?_
 refine ρy U40 sz3 zv3 ?_
 refine ρk cf51 ?_ (hF := fun hg => told_fn 0 [StockP.totalP c.lines] (by simp))
 refine ma ?_
 refine ρ1 sz93 ?_
 refine ez ?_
 refine AWP.ret ?_
 refine ρj (rs := [.tmp 4, .cell 5 93]) (.cons (.tmp rfl) (.cons (.cellA rfl ((hG.at _ _).trans rfl) U93 rfl sz93 rfl rfl) .nil)) ?_
 rw [orderR, if_pos h0]; rfl
theorem of6_fn (l : Its) (k : Int) (hk : k = 6) : FnP Tryz.prog 85 [.sl (l.map Stk.aIt), .int .i64 k] (.fn (.func 126) [.sl (l.map Stk.aIt)] []) := by
 refine FnP.of Tryz.func85 rfl rfl (by simp) (by simp [AV.cells, Stk.aIt]) (fun G hG => ?_)
 have hN : NoH G.length (.fn (.func 126) [.sl (l.map Stk.aIt)] []) := (by simp [AV.cells, Stk.aIt])
 refine sr fun _ => ?_
 refine mz ?_
 refine AWP.seq (sr fun _ => ?_)
 refine mv ?_
 refine ez ?_
 refine AWP.block (sr fun _ => ?_)
 refine ρ2 ?_
 refine mz ?_
 refine ρp (fun h0 => ?_) (fun h0 => ?_)
 · refine sr fun _ => ?_
   refine mv ?_
   refine ARun.makeFunc rfl rfl rfl rfl (.cons (ep rfl) .nil) .nil optN ?_
   refine mz ?_
   refine AWP.ret (blockA_r (thenA_r ?_))
   refine ρi ?_
   rfl
 simp [hk] at h0
theorem of7_fn (l : Its) (k : Int) (hk : k = 7) : FnP Tryz.prog 85 [.sl (l.map Stk.aIt), .int .i64 k] (.fn (.func 127) [.sl (l.map Stk.aIt)] []) := by
 refine FnP.of Tryz.func85 rfl rfl (by simp) (by simp [AV.cells, Stk.aIt]) (fun G hG => ?_)
 have hN : NoH G.length (.fn (.func 127) [.sl (l.map Stk.aIt)] []) := (by simp [AV.cells, Stk.aIt])
 refine sr fun _ => ?_
 refine mz ?_
 refine AWP.seq (sr fun _ => ?_)
 refine mv ?_
 refine ez ?_
 refine AWP.block (sr fun _ => ?_)
 refine ρ2 ?_
 refine mz ?_
 refine ρp (fun h0 => ?_) (fun h0 => ?_)
 · simp [hk] at h0
 refine sr fun _ => ?_
 refine ρ2 ?_
 refine mz ?_
 refine ρp (fun h1 => ?_) (fun h1 => ?_)
 · refine sr fun _ => ?_
   refine mv ?_
   refine ARun.makeFunc rfl rfl rfl rfl (.cons (ep rfl) .nil) .nil optN ?_
   refine mz ?_
   refine AWP.ret (blockA_r (thenA_r ?_))
   refine ρi ?_
   rfl
 simp [hk] at h1
theorem of8_fn (l : Its) (k : Int) (hk : k = 8) : FnP Tryz.prog 85 [.sl (l.map Stk.aIt), .int .i64 k] (.fn (.func 128) [.sl (l.map Stk.aIt)] []) := by
 refine FnP.of Tryz.func85 rfl rfl (by simp) (by simp [AV.cells, Stk.aIt]) (fun G hG => ?_)
 have hN : NoH G.length (.fn (.func 128) [.sl (l.map Stk.aIt)] []) := (by simp [AV.cells, Stk.aIt])
 refine sr fun _ => ?_
 refine mz ?_
 refine AWP.seq (sr fun _ => ?_)
 refine mv ?_
 refine ez ?_
 refine AWP.block (sr fun _ => ?_)
 refine ρ2 ?_
 refine mz ?_
 refine ρp (fun h0 => ?_) (fun h0 => ?_)
 · simp [hk] at h0
 refine sr fun _ => ?_
 refine ρ2 ?_
 refine mz ?_
 refine ρp (fun h1 => ?_) (fun h1 => ?_)
 · simp [hk] at h1
 refine sr fun _ => ?_
 refine ρ2 ?_
 refine mz ?_
 refine ρp (fun h2 => ?_) (fun h2 => ?_)
 · refine sr fun _ => ?_
   refine mv ?_
   refine ARun.makeFunc rfl rfl rfl rfl (.cons (ep rfl) .nil) .nil optN ?_
   refine mz ?_
   refine AWP.ret (blockA_r (thenA_r ?_))
   refine ρi ?_
   rfl
 simp [hk] at h2
theorem of1_fn (l : Its) (k : Int) (hk : k ≠ 6 ∧ k ≠ 7 ∧ k ≠ 8) : FnP Tryz.prog 85 [.sl (l.map Stk.aIt), .int .i64 k] (.fn (.func 129) [.sl (l.map Stk.aIt)] []) := by
 refine FnP.of Tryz.func85 rfl rfl (by simp) (by simp [AV.cells, Stk.aIt]) (fun G hG => ?_)
 have hN : NoH G.length (.fn (.func 129) [.sl (l.map Stk.aIt)] []) := (by simp [AV.cells, Stk.aIt])
 refine sr fun _ => ?_
 refine mz ?_
 refine AWP.seq (sr fun _ => ?_)
 refine mv ?_
 refine ez ?_
 refine AWP.block (sr fun _ => ?_)
 refine ρ2 ?_
 refine mz ?_
 refine ρp (fun h0 => ?_) (fun h0 => ?_)
 · simp [hk] at h0
 refine sr fun _ => ?_
 refine ρ2 ?_
 refine mz ?_
 refine ρp (fun h1 => ?_) (fun h1 => ?_)
 · simp [hk] at h1
 refine sr fun _ => ?_
 refine ρ2 ?_
 refine mz ?_
 refine ρp (fun h2 => ?_) (fun h2 => ?_)
 · simp [hk] at h2
 refine AWP.skip (blockA_n (thenA_n (sr fun _ => ?_)))
 refine mv ?_
 refine ARun.makeFunc rfl rfl rfl rfl (.cons (ep rfl) .nil) .nil optN ?_
 refine mz ?_
 refine AWP.ret ?_
 refine ρi ?_
 rfl
theorem do6_fn (l : Its) (c : Cl) (hl : l.length ≤ 100) (hc : c.lines.length ≤ 1000) (hk : c.kind = 6) : FnP Tryz.prog 55 [.sl (l.map Stk.aIt), aCl c] (.tup [.sl ((doP l c).1.map Stk.aIt), aRp (doP l c).2]) := by
 refine FnP.of Tryz.func55 rfl rfl (by simp) (by simp [AV.cells, aIn, aOut, aLn, aCl, aRp, Stk.aIt, Ssn.aSe, aSt]) (fun G hG => ?_)
 have hN : NoH G.length (.tup [.sl ((doP l c).1.map Stk.aIt), aRp (doP l c).2]) := (by simp [AV.cells, aIn, aOut, aLn, aCl, aRp, Stk.aIt, Ssn.aSe, aSt])
 refine sr fun _ => ?_
 refine ρz ?_
 refine ma ?_
 refine ρo (j := 0) zv93 ?_
 refine ez ?_
 refine AWP.seq (sr fun _ => ?_)
 refine mv ?_
 refine ρm cf65 (fun hg => Stk.check_fn l) ?_
 refine mz (sr fun _ => ?_)
 refine mv ?_
 refine ρ2 ?_
 refine ez ?_
 refine ρp (fun h0 => ?_) (fun h0 => ?_)
 · simp at h0
   refine sr fun _ => ?_
   refine mv ?_
   refine mv ?_
   refine ρk cf51 ?_ (hF := fun hg => told_fn (Stk.okE l) [] (by simp))
   refine ma ?_
   refine ρ1 sz93 ?_
   refine ez ?_
   refine AWP.ret (thenA_r ?_)
   refine ρj (rs := [.tmp 4, .cell 5 93]) (.cons (.tmp rfl) (.cons (.cellA rfl ((hG.at _ _).trans rfl) U93 rfl sz93 rfl rfl) .nil)) ?_
   rw [do_0 h0, okE_two h0]; rfl
 simp at h0
 refine AWP.skip (thenA_n (AWP.seq (sr fun _ => ?_)))
 refine ρl U84 sz84 ?_
 refine ρA cf81 ?_ (hF := fun hg => check_fn c (by omega))
 refine mz (sr fun _ => ?_)
 refine mv ?_
 refine ARun.isNil rfl rfl rfl rfl U96 (ep rfl) (fun hg => by first | rfl | exact nilA_aEr _) (.inr ⟨rfl, rfl⟩) optN ?_
 refine ez ?_
 refine ρp (fun h1 => ?_) (fun h1 => ?_)
 · simp only [new_none] at h1
   simp at h1
   refine sr fun _ => ?_
   refine mv ?_
   refine mv ?_
   refine ρm cf53 (fun hg => code_fn (Er.new tCall (checkP c))) ?_
   refine ρk cf51 ?_ (hF := fun hg => told_fn (Er.new tCall (checkP c)).code [] (by simp))
   refine ma ?_
   refine ρ1 sz93 ?_
   refine ez ?_
   refine AWP.ret (thenA_r ?_)
   refine ρj (rs := [.tmp 4, .cell 5 93]) (.cons (.tmp rfl) (.cons (.cellA rfl ((hG.at _ _).trans rfl) U93 rfl sz93 rfl rfl) .nil)) ?_
   rw [do_1 h0 h1, new_code]; rfl
 simp only [new_none] at h1
 simp at h1
 refine AWP.skip (thenA_n (sr fun _ => ?_))
 refine mv ?_
 refine ρ4 U84 sz3 ?_
 refine ρ7 U3 ?_
 refine ρh cf85 (fun hg => of6_fn l c.kind hk) ?_
 refine mz (sr fun _ => ?_)
 refine mv ?_
 refine ρl U84 sz84 ?_
 refine ρm cf126 (fun hg => moveS_fn l c hl) ?_
 refine ρ9 ?_
 refine ρ9 ?_
 refine ma ?_
 refine ρ1 sz93 ?_
 refine ez ?_
 refine AWP.ret ?_
 refine ρj (rs := [.tmp 4, .cell 5 93]) (.cons (.tmp rfl) (.cons (.cellA rfl ((hG.at _ _).trans rfl) U93 rfl sz93 rfl rfl) .nil)) ?_
 rw [do_2 h0 h1, kind_6 hk]; rfl
theorem do7_fn (l : Its) (c : Cl) (hl : l.length ≤ 100) (hc : c.lines.length ≤ 1000) (hk : c.kind = 7) : FnP Tryz.prog 55 [.sl (l.map Stk.aIt), aCl c] (.tup [.sl ((doP l c).1.map Stk.aIt), aRp (doP l c).2]) := by
 refine FnP.of Tryz.func55 rfl rfl (by simp) (by simp [AV.cells, aIn, aOut, aLn, aCl, aRp, Stk.aIt, Ssn.aSe, aSt]) (fun G hG => ?_)
 have hN : NoH G.length (.tup [.sl ((doP l c).1.map Stk.aIt), aRp (doP l c).2]) := (by simp [AV.cells, aIn, aOut, aLn, aCl, aRp, Stk.aIt, Ssn.aSe, aSt])
 refine sr fun _ => ?_
 refine ρz ?_
 refine ma ?_
 refine ρo (j := 0) zv93 ?_
 refine ez ?_
 refine AWP.seq (sr fun _ => ?_)
 refine mv ?_
 refine ρm cf65 (fun hg => Stk.check_fn l) ?_
 refine mz (sr fun _ => ?_)
 refine mv ?_
 refine ρ2 ?_
 refine ez ?_
 refine ρp (fun h0 => ?_) (fun h0 => ?_)
 · simp at h0
   refine sr fun _ => ?_
   refine mv ?_
   refine mv ?_
   refine ρk cf51 ?_ (hF := fun hg => told_fn (Stk.okE l) [] (by simp))
   refine ma ?_
   refine ρ1 sz93 ?_
   refine ez ?_
   refine AWP.ret (thenA_r ?_)
   refine ρj (rs := [.tmp 4, .cell 5 93]) (.cons (.tmp rfl) (.cons (.cellA rfl ((hG.at _ _).trans rfl) U93 rfl sz93 rfl rfl) .nil)) ?_
   rw [do_0 h0, okE_two h0]; rfl
 simp at h0
 refine AWP.skip (thenA_n (AWP.seq (sr fun _ => ?_)))
 refine ρl U84 sz84 ?_
 refine ρA cf81 ?_ (hF := fun hg => check_fn c (by omega))
 refine mz (sr fun _ => ?_)
 refine mv ?_
 refine ARun.isNil rfl rfl rfl rfl U96 (ep rfl) (fun hg => by first | rfl | exact nilA_aEr _) (.inr ⟨rfl, rfl⟩) optN ?_
 refine ez ?_
 refine ρp (fun h1 => ?_) (fun h1 => ?_)
 · simp only [new_none] at h1
   simp at h1
   refine sr fun _ => ?_
   refine mv ?_
   refine mv ?_
   refine ρm cf53 (fun hg => code_fn (Er.new tCall (checkP c))) ?_
   refine ρk cf51 ?_ (hF := fun hg => told_fn (Er.new tCall (checkP c)).code [] (by simp))
   refine ma ?_
   refine ρ1 sz93 ?_
   refine ez ?_
   refine AWP.ret (thenA_r ?_)
   refine ρj (rs := [.tmp 4, .cell 5 93]) (.cons (.tmp rfl) (.cons (.cellA rfl ((hG.at _ _).trans rfl) U93 rfl sz93 rfl rfl) .nil)) ?_
   rw [do_1 h0 h1, new_code]; rfl
 simp only [new_none] at h1
 simp at h1
 refine AWP.skip (thenA_n (sr fun _ => ?_))
 refine mv ?_
 refine ρ4 U84 sz3 ?_
 refine ρ7 U3 ?_
 refine ρh cf85 (fun hg => of7_fn l c.kind hk) ?_
 refine mz (sr fun _ => ?_)
 refine mv ?_
 refine ρl U84 sz84 ?_
 refine ρm cf127 (fun hg => queryS_fn l c hl) ?_
 refine ρ9 ?_
 refine ρ9 ?_
 refine ma ?_
 refine ρ1 sz93 ?_
 refine ez ?_
 refine AWP.ret ?_
 refine ρj (rs := [.tmp 4, .cell 5 93]) (.cons (.tmp rfl) (.cons (.cellA rfl ((hG.at _ _).trans rfl) U93 rfl sz93 rfl rfl) .nil)) ?_
 rw [do_2 h0 h1, kind_7 hk]; rfl
theorem do8_fn (l : Its) (c : Cl) (hl : l.length ≤ 100) (hc : c.lines.length ≤ 1000) (hk : c.kind = 8) : FnP Tryz.prog 55 [.sl (l.map Stk.aIt), aCl c] (.tup [.sl ((doP l c).1.map Stk.aIt), aRp (doP l c).2]) := by
 refine FnP.of Tryz.func55 rfl rfl (by simp) (by simp [AV.cells, aIn, aOut, aLn, aCl, aRp, Stk.aIt, Ssn.aSe, aSt]) (fun G hG => ?_)
 have hN : NoH G.length (.tup [.sl ((doP l c).1.map Stk.aIt), aRp (doP l c).2]) := (by simp [AV.cells, aIn, aOut, aLn, aCl, aRp, Stk.aIt, Ssn.aSe, aSt])
 refine sr fun _ => ?_
 refine ρz ?_
 refine ma ?_
 refine ρo (j := 0) zv93 ?_
 refine ez ?_
 refine AWP.seq (sr fun _ => ?_)
 refine mv ?_
 refine ρm cf65 (fun hg => Stk.check_fn l) ?_
 refine mz (sr fun _ => ?_)
 refine mv ?_
 refine ρ2 ?_
 refine ez ?_
 refine ρp (fun h0 => ?_) (fun h0 => ?_)
 · simp at h0
   refine sr fun _ => ?_
   refine mv ?_
   refine mv ?_
   refine ρk cf51 ?_ (hF := fun hg => told_fn (Stk.okE l) [] (by simp))
   refine ma ?_
   refine ρ1 sz93 ?_
   refine ez ?_
   refine AWP.ret (thenA_r ?_)
   refine ρj (rs := [.tmp 4, .cell 5 93]) (.cons (.tmp rfl) (.cons (.cellA rfl ((hG.at _ _).trans rfl) U93 rfl sz93 rfl rfl) .nil)) ?_
   rw [do_0 h0, okE_two h0]; rfl
 simp at h0
 refine AWP.skip (thenA_n (AWP.seq (sr fun _ => ?_)))
 refine ρl U84 sz84 ?_
 refine ρA cf81 ?_ (hF := fun hg => check_fn c (by omega))
 refine mz (sr fun _ => ?_)
 refine mv ?_
 refine ARun.isNil rfl rfl rfl rfl U96 (ep rfl) (fun hg => by first | rfl | exact nilA_aEr _) (.inr ⟨rfl, rfl⟩) optN ?_
 refine ez ?_
 refine ρp (fun h1 => ?_) (fun h1 => ?_)
 · simp only [new_none] at h1
   simp at h1
   refine sr fun _ => ?_
   refine mv ?_
   refine mv ?_
   refine ρm cf53 (fun hg => code_fn (Er.new tCall (checkP c))) ?_
   refine ρk cf51 ?_ (hF := fun hg => told_fn (Er.new tCall (checkP c)).code [] (by simp))
   refine ma ?_
   refine ρ1 sz93 ?_
   refine ez ?_
   refine AWP.ret (thenA_r ?_)
   refine ρj (rs := [.tmp 4, .cell 5 93]) (.cons (.tmp rfl) (.cons (.cellA rfl ((hG.at _ _).trans rfl) U93 rfl sz93 rfl rfl) .nil)) ?_
   rw [do_1 h0 h1, new_code]; rfl
 simp only [new_none] at h1
 simp at h1
 refine AWP.skip (thenA_n (sr fun _ => ?_))
 refine mv ?_
 refine ρ4 U84 sz3 ?_
 refine ρ7 U3 ?_
 refine ρh cf85 (fun hg => of8_fn l c.kind hk) ?_
 refine mz (sr fun _ => ?_)
 refine mv ?_
 refine ρl U84 sz84 ?_
 refine ρm cf128 (fun hg => orderS_fn l c hl hc) ?_
 refine ρ9 ?_
 refine ρ9 ?_
 refine ma ?_
 refine ρ1 sz93 ?_
 refine ez ?_
 refine AWP.ret ?_
 refine ρj (rs := [.tmp 4, .cell 5 93]) (.cons (.tmp rfl) (.cons (.cellA rfl ((hG.at _ _).trans rfl) U93 rfl sz93 rfl rfl) .nil)) ?_
 rw [do_2 h0 h1, kind_8 hk]; rfl
theorem do1_fn (l : Its) (c : Cl) (hl : l.length ≤ 100) (hc : c.lines.length ≤ 1000) (hk : checkP c = 0 → c.kind ≠ 6 ∧ c.kind ≠ 7 ∧ c.kind ≠ 8 ∧ 1 ≤ c.kind ∧ c.kind ≤ 5) : FnP Tryz.prog 55 [.sl (l.map Stk.aIt), aCl c] (.tup [.sl ((doP l c).1.map Stk.aIt), aRp (doP l c).2]) := by
 refine FnP.of Tryz.func55 rfl rfl (by simp) (by simp [AV.cells, aIn, aOut, aLn, aCl, aRp, Stk.aIt, Ssn.aSe, aSt]) (fun G hG => ?_)
 have hN : NoH G.length (.tup [.sl ((doP l c).1.map Stk.aIt), aRp (doP l c).2]) := (by simp [AV.cells, aIn, aOut, aLn, aCl, aRp, Stk.aIt, Ssn.aSe, aSt])
 refine sr fun _ => ?_
 refine ρz ?_
 refine ma ?_
 refine ρo (j := 0) zv93 ?_
 refine ez ?_
 refine AWP.seq (sr fun _ => ?_)
 refine mv ?_
 refine ρm cf65 (fun hg => Stk.check_fn l) ?_
 refine mz (sr fun _ => ?_)
 refine mv ?_
 refine ρ2 ?_
 refine ez ?_
 refine ρp (fun h0 => ?_) (fun h0 => ?_)
 · simp at h0
   refine sr fun _ => ?_
   refine mv ?_
   refine mv ?_
   refine ρk cf51 ?_ (hF := fun hg => told_fn (Stk.okE l) [] (by simp))
   refine ma ?_
   refine ρ1 sz93 ?_
   refine ez ?_
   refine AWP.ret (thenA_r ?_)
   refine ρj (rs := [.tmp 4, .cell 5 93]) (.cons (.tmp rfl) (.cons (.cellA rfl ((hG.at _ _).trans rfl) U93 rfl sz93 rfl rfl) .nil)) ?_
   rw [do_0 h0, okE_two h0]; rfl
 simp at h0
 refine AWP.skip (thenA_n (AWP.seq (sr fun _ => ?_)))
 refine ρl U84 sz84 ?_
 refine ρA cf81 ?_ (hF := fun hg => check_fn c (by omega))
 refine mz (sr fun _ => ?_)
 refine mv ?_
 refine ARun.isNil rfl rfl rfl rfl U96 (ep rfl) (fun hg => by first | rfl | exact nilA_aEr _) (.inr ⟨rfl, rfl⟩) optN ?_
 refine ez ?_
 refine ρp (fun h1 => ?_) (fun h1 => ?_)
 · simp only [new_none] at h1
   simp at h1
   refine sr fun _ => ?_
   refine mv ?_
   refine mv ?_
   refine ρm cf53 (fun hg => code_fn (Er.new tCall (checkP c))) ?_
   refine ρk cf51 ?_ (hF := fun hg => told_fn (Er.new tCall (checkP c)).code [] (by simp))
   refine ma ?_
   refine ρ1 sz93 ?_
   refine ez ?_
   refine AWP.ret (thenA_r ?_)
   refine ρj (rs := [.tmp 4, .cell 5 93]) (.cons (.tmp rfl) (.cons (.cellA rfl ((hG.at _ _).trans rfl) U93 rfl sz93 rfl rfl) .nil)) ?_
   rw [do_1 h0 h1, new_code]; rfl
 simp only [new_none] at h1
 simp at h1
 refine AWP.skip (thenA_n (sr fun _ => ?_))
 refine mv ?_
 refine ρ4 U84 sz3 ?_
 refine ρ7 U3 ?_
 refine ρh cf85 (fun hg => of1_fn l c.kind ⟨(hk h1).1, (hk h1).2.1, (hk h1).2.2.1⟩) ?_
 refine mz (sr fun _ => ?_)
 refine mv ?_
 refine ρl U84 sz84 ?_
 refine ρm cf129 (fun hg => one_fn l c hl (hk h1).2.2.2) ?_
 refine ρ9 ?_
 refine ρ9 ?_
 refine ma ?_
 refine ρ1 sz93 ?_
 refine ez ?_
 refine AWP.ret ?_
 refine ρj (rs := [.tmp 4, .cell 5 93]) (.cons (.tmp rfl) (.cons (.cellA rfl ((hG.at _ _).trans rfl) U93 rfl sz93 rfl rfl) .nil)) ?_
 rw [do_2 h0 h1, kind_o ⟨(hk h1).1, (hk h1).2.1, (hk h1).2.2.1⟩]; rfl
theorem kind_rng {c : Cl} (h : checkP c = 0) : 1 ≤ c.kind ∧ c.kind ≤ 8 := (check_ok h).2.2.1
theorem do_fn (l : Its) (c : Cl) (hl : l.length ≤ 100) (hc : c.lines.length ≤ 1000) : FnP Tryz.prog 55 [.sl (l.map Stk.aIt), aCl c] (.tup [.sl ((doP l c).1.map Stk.aIt), aRp (doP l c).2]) := by
 by_cases h6 : c.kind = 6
 · exact do6_fn l c hl hc h6
 by_cases h7 : c.kind = 7
 · exact do7_fn l c hl hc h7
 by_cases h8 : c.kind = 8
 · exact do8_fn l c hl hc h8
 exact do1_fn l c hl hc fun h => by have := kind_rng h; exact ⟨h6, h7, h8, by omega, by omega⟩
theorem chkS_fn (s : St) : FnP Tryz.prog 42 [aSt s] (.int .i64 (chkP s)) := by
 refine FnP.of Tryz.func42 rfl rfl (by simp) (by simp [AV.cells, aIn, aOut, aLn, aCl, aRp, Stk.aIt, Ssn.aSe, aSt]) (fun G hG => ?_)
 have hN : NoH G.length (.int .i64 (chkP s)) := (by simp [AV.cells, aIn, aOut, aLn, aCl, aRp, Stk.aIt, Ssn.aSe, aSt])
 refine sr fun _ => ?_
 refine ρz ?_
 refine mz ?_
 refine AWP.seq (sr fun _ => ?_)
 refine ρ4 U25 sz22 ?_
 refine ρ7 U22 ?_
 refine ρm cf65 (fun hg => Stk.check_fn s.1) ?_
 refine ρ2 ?_
 refine mv ?_
 refine ρc U25 sz23 ?_
 refine ρ5 U23 ?_
 refine ρr cf66 (fun hg => Ssn.check_fn s.2) ?_
 refine ρb ?_
 refine ρ3 ?_
 refine ez ?_
 refine ρp (fun h0 => ?_) (fun h0 => ?_)
 · simp at h0
   refine sr fun _ => ?_
   refine mz ?_
   refine AWP.ret (thenA_r ?_)
   refine ρi ?_
   rw [chkP, if_neg (by rintro ⟨a, b⟩; rcases h0 with h0 | h0 <;> contradiction)]; rfl
 simp at h0
 refine AWP.skip (thenA_n (sr fun _ => ?_))
 refine mz ?_
 refine AWP.ret ?_
 refine ρi ?_
 rw [chkP, if_pos h0]; rfl
theorem chkR_fn (s : St) : FnP Tryz.prog 31 [aSt s] (.int .i64 (chkP s)) := by
 refine FnP.of Tryz.func31 rfl rfl (by simp) (by simp [AV.cells, aIn, aOut, aLn, aCl, aRp, Stk.aIt, Ssn.aSe, aSt]) (fun G hG => ?_)
 have hN : NoH G.length (.int .i64 (chkP s)) := (by simp [AV.cells, aIn, aOut, aLn, aCl, aRp, Stk.aIt, Ssn.aSe, aSt])
 refine sr fun _ => ?_
 refine ρz ?_
 refine mz ?_
 refine AWP.seq (sr fun _ => ?_)
 refine ρ4 U25 sz22 ?_
 refine ρ7 U22 ?_
 refine ρm cf46 (fun hg => Stk.checkR_fn s.1) ?_
 refine ρ2 ?_
 refine mv ?_
 refine ρc U25 sz23 ?_
 refine ρ5 U23 ?_
 refine ρr cf47 (fun hg => Ssn.checkR_fn s.2) ?_
 refine ρb ?_
 refine ρ3 ?_
 refine ez ?_
 refine ρp (fun h0 => ?_) (fun h0 => ?_)
 · simp at h0
   refine sr fun _ => ?_
   refine mz ?_
   refine AWP.ret (thenA_r ?_)
   refine ρi ?_
   rw [chkP, if_neg (by rintro ⟨a, b⟩; rcases h0 with h0 | h0 <;> contradiction)]; rfl
 simp at h0
 refine AWP.skip (thenA_n (sr fun _ => ?_))
 refine mz ?_
 refine AWP.ret ?_
 refine ρi ?_
 rw [chkP, if_pos h0]; rfl
theorem bytes_fn (r : Rp) (hn : r.nums.length ≤ 1000) (hf : ∀ x, x ∈ r.nums → -9223372036854775808 ≤ x ∧ x ≤ 9223372036854775807) : FnP Tryz.prog 50 [aRp r] (.str (putR r)) := by
 refine FnP.of Tryz.func50 rfl rfl (by simp) (by simp [AV.cells, aIn, aOut, aLn, aCl, aRp, Stk.aIt, Ssn.aSe, aSt]) (fun G hG => ?_)
 have hN : NoH G.length (.str (putR r)) := (by simp [AV.cells, aIn, aOut, aLn, aCl, aRp, Stk.aIt, Ssn.aSe, aSt])
 refine sr fun _ => ?_
 refine ρz ?_
 refine mz (sr fun _ => ?_)
 refine ρl U93 sz93 ?_
 refine ρA cf72 ?_ (hF := fun hg => putR_c r (by omega) hf)
 refine mv ?_
 refine ρ9 ?_
 refine ρ9 ?_
 refine ma ?_
 refine mz (sr fun _ => ?_)
 refine mv ?_
 refine mz ?_
 refine AWP.ret ?_
 refine ρi ?_
 rfl
theorem bytesR_fn (r : Rp) (hn : r.nums.length ≤ 1000) (hf : ∀ x, x ∈ r.nums → -9223372036854775808 ≤ x ∧ x ≤ 9223372036854775807) : FnP Tryz.prog 58 [aRp r] (.str (putR r)) := by
 refine FnP.of Tryz.func58 rfl rfl (by simp) (by simp [AV.cells, aIn, aOut, aLn, aCl, aRp, Stk.aIt, Ssn.aSe, aSt]) (fun G hG => ?_)
 have hN : NoH G.length (.str (putR r)) := (by simp [AV.cells, aIn, aOut, aLn, aCl, aRp, Stk.aIt, Ssn.aSe, aSt])
 refine sr fun _ => ?_
 refine ρz ?_
 refine mz (sr fun _ => ?_)
 refine ρl U93 sz93 ?_
 refine ρA cf92 ?_ (hF := fun hg => putR_R r (by omega) hf)
 refine mv ?_
 refine ρ9 ?_
 refine ρ9 ?_
 refine ma ?_
 refine mz (sr fun _ => ?_)
 refine mv ?_
 refine mz ?_
 refine AWP.ret ?_
 refine ρi ?_
 rfl
theorem apply_fn (s : St) (p : ByteArray) (hp : p.size ≤ 2000) (h1s : s.1.length ≤ 60) (h2s : s.2.length ≤ 60) : FnP Tryz.prog 38 [aSt s, .str p] (.tup [aSt (applyP s p).1, .str (applyP s p).2]) := by
 have hdl := do_len s.1 (takeC p) h1s
 have htl := takeC_len p
 have hrl := putR_len (doP s.1 (takeC p)).2
 refine FnP.of Tryz.func38 rfl rfl (by simp) (by simp [AV.cells, aIn, aOut, aLn, aCl, aRp, Stk.aIt, Ssn.aSe, aSt]) (fun G hG => ?_)
 have hN : NoH G.length (.tup [aSt (applyP s p).1, .str (applyP s p).2]) := (by simp [AV.cells, aIn, aOut, aLn, aCl, aRp, Stk.aIt, Ssn.aSe, aSt])
 refine sr fun _ => ?_
 refine ρz ?_
 refine ρo (j := 0) zv25 ?_
 refine mz ?_
 refine AWP.seq (sr fun _ => ?_)
 refine ρl U25 sz25 ?_
 refine ρm cf42 (fun hg => chkS_fn s) ?_
 refine mz (sr fun _ => ?_)
 refine mv ?_
 refine ρ2 ?_
 refine ez ?_
 refine ρp (fun h0 => ?_) (fun h0 => ?_)
 · simp at h0
   refine AWP.seq ?_
   refine ρE mixed (fun _ => ?_)
   refine ρl U25 sz25 ?_
   refine mv ?_
   refine ρk cf51 ?_ (hF := fun hg => told_fn (chkP s) [] (by simp))
   refine ρA cf50 ?_ (hF := fun hg => bytes_fn ⟨chkP s, []⟩ (by simp) (by simp))
   refine ρ1 sz25 ?_
   refine ma ?_
   refine ⟨by kernel_rfl, _, _, rfl, hG, ?_⟩
   refine thenA_n (AWP.ret (thenA_r ?_))
   refine ρj (rs := [.cell 4 25, .tmp 5]) (.cons (.cellA rfl ((hG.at _ _).trans rfl) U25 rfl sz25 rfl rfl) (.cons (.tmp rfl) .nil)) ?_
   rw [applyP, if_neg h0, chk_two h0]; rfl
 simp at h0
 refine AWP.skip (thenA_n (sr fun _ => ?_))
 refine mv ?_
 refine ρA cf52 ?_ (hF := fun hg => take_c p (by omega))
 refine mv ?_
 refine ρ9 ?_
 refine ρ9 ?_
 refine ρo (j := 1) zv84 ?_
 refine ρ1 sz84 ?_
 refine mz ?_
 refine AWP.seq (sr fun _ => ?_)
 refine mv ?_
 refine ARun.isNil rfl rfl rfl rfl U96 (ep rfl) (fun hg => by first | rfl | exact nilA_aEr _) (.inr ⟨rfl, rfl⟩) optN ?_
 refine ez ?_
 refine ρp (fun h1 => ?_) (fun h1 => ?_)
 · simp only [takeErr_none] at h1
   simp at h1
   refine AWP.seq ?_
   refine ρE mixed (fun _ => ?_)
   refine ρl U25 sz25 ?_
   refine mv ?_
   refine ρm cf53 (fun hg => code_fn (takeErr p)) ?_
   refine ρk cf51 ?_ (hF := fun hg => told_fn (takeErr p).code [] (by simp))
   refine ρA cf50 ?_ (hF := fun hg => bytes_fn ⟨(takeErr p).code, []⟩ (by simp) (by simp))
   refine ρ1 sz25 ?_
   refine ma ?_
   refine ⟨by kernel_rfl, _, _, rfl, hG, ?_⟩
   refine thenA_n (AWP.ret (thenA_r ?_))
   refine ρj (rs := [.cell 4 25, .tmp 5]) (.cons (.cellA rfl ((hG.at _ _).trans rfl) U25 rfl sz25 rfl rfl) (.cons (.tmp rfl) .nil)) ?_
   rw [applyP, if_pos h0, if_neg h1, takeErr_code]; rfl
 simp only [takeErr_none] at h1
 simp at h1
 refine AWP.skip (thenA_n (sr fun _ => ?_))
 refine ρ4 U25 sz23 ?_
 refine ρ7 U23 ?_
 refine ρ6 (fo := 0) U84 sz3 ?_
 refine ρd U3 ?_
 refine ρ6 (fo := 1) U84 sz3 ?_
 refine ρd U3 ?_
 refine ARun.call rfl rfl rfl rfl cf54 (ep rfl) (.cons (ep rfl) (.cons (ep rfl) (.cons (ep rfl) .nil))) rfl (fun hg => Ssn.ask_fn s.2 (takeC p).client (takeC p).seq (by omega)) optN ?_
 refine mv ?_
 refine ρ9 ?_
 refine ρ9 ?_
 refine ρ9 ?_
 refine ma ?_
 refine ma ?_
 refine mz ?_
 refine AWP.seq (AWP.block (sr fun _ => ?_))
 refine mv ?_
 refine ρ2 ?_
 refine mz ?_
 refine ρp (fun h2 => ?_) (fun h2 => ?_)
 · simp at h2
   refine AWP.seq ?_
   refine ρE mixed (fun _ => ?_)
   refine ρl U25 sz25 ?_
   refine mv ?_
   refine ρk cf51 ?_ (hF := fun hg => told_fn (asP s p).2.2 [] (by simp))
   refine ρA cf50 ?_ (hF := fun hg => bytes_fn ⟨(asP s p).2.2, []⟩ (by simp) (by simp))
   refine ρ1 sz25 ?_
   refine ma ?_
   refine ⟨by kernel_rfl, _, _, rfl, hG, ?_⟩
   refine thenA_n (AWP.ret ?_)
   refine blockA_r (thenA_r ?_)
   refine ρj (rs := [.cell 4 25, .tmp 5]) (.cons (.cellA rfl ((hG.at _ _).trans rfl) U25 rfl sz25 rfl rfl) (.cons (.tmp rfl) .nil)) ?_
   rw [applyP, if_pos h0, if_pos h1, if_neg h2]; rfl
 simp at h2
 refine sr fun _ => ?_
 refine mv ?_
 refine mz ?_
 refine ρp (fun h3 => ?_) (fun h3 => ?_)
 · refine sr fun _ => ?_
   refine ρl U25 sz25 ?_
   refine mv ?_
   refine ρ1 sz25 ?_
   refine mz ?_
   refine AWP.ret (blockA_r (thenA_r ?_))
   refine ρj (rs := [.cell 4 25, .tmp 5]) (.cons (.cellA rfl ((hG.at _ _).trans rfl) U25 rfl sz25 rfl rfl) (.cons (.tmp rfl) .nil)) ?_
   rw [applyP, if_pos h0, if_pos h1, if_pos h2, if_pos h3]; rfl
 try simp at h3
 have hnz := note_zero h1 (by omega) h2 h3
 refine AWP.skip (blockA_n (thenA_n (sr fun _ => ?_)))
 refine ρ4 U25 sz22 ?_
 refine ρ7 U22 ?_
 refine ρn U84 sz84 ?_
 refine ρk cf55 ?_ (hF := fun hg => do_fn s.1 (takeC p) (by omega) (by omega))
 refine mv ?_
 refine ρ9 ?_
 refine ρ9 ?_
 refine ρo (j := 2) zv93 ?_
 refine ma ?_
 refine ρ1 sz93 ?_
 refine ez (sr fun _ => ?_)
 refine ρn U93 sz93 ?_
 refine ρA cf50 ?_ (hF := fun hg => bytes_fn (doP s.1 (takeC p)).2 (by have := (do_fine s.1 (takeC p)).len; omega) (do_fine s.1 (takeC p)).num)
 refine mz (sr fun _ => ?_)
 refine ρ4 U25 sz23 ?_
 refine ρ7 U23 ?_
 refine ρ6 (fo := 0) U84 sz3 ?_
 refine ρd U3 ?_
 refine ρ6 (fo := 1) U84 sz3 ?_
 refine ρd U3 ?_
 refine mv ?_
 refine ARun.build rfl rfl rfl rfl so75 (.cons (ep rfl) (.cons (ep rfl) (.cons (ep rfl) .nil))) rfl rfl optN ?_
 refine ρk cf56 ?_ (hF := fun hg => Ssn.note_fn s.2 (nwP s p) (by omega) (by show (putR _).size ≤ _; omega))
 refine mv ?_
 refine ρ9 ?_
 refine ρ9 ?_
 refine ma ?_
 refine mz ?_
 refine AWP.seq (sr fun _ => ?_)
 refine mv ?_
 refine ρ2 ?_
 refine ez ?_
 refine ρp (fun h4 => ?_) (fun h4 => ?_)
 · simp [hnz] at h4
 refine AWP.skip (thenA_n (sr fun _ => ?_))
 refine mv ?_
 refine ρA cf57 ?_ (hF := fun hg => cloneIt_fn (doP s.1 (takeC p)).1 (by omega))
 refine mv ?_
 refine ARun.build rfl rfl rfl rfl so25 (.cons (ep rfl) (.cons (ep rfl) .nil)) rfl rfl optN ?_
 refine mv ?_
 refine ρ1 sz25 ?_
 refine mz ?_
 refine AWP.ret ?_
 refine ρj (rs := [.cell 4 25, .tmp 5]) (.cons (.cellA rfl ((hG.at _ _).trans rfl) U25 rfl sz25 rfl rfl) (.cons (.tmp rfl) .nil)) ?_
 rw [applyP, if_pos h0, if_pos h1, if_pos h2, if_neg (by simp [h3])]; rfl
theorem doR1_fn (l : Its) (c : Cl) (hl : l.length ≤ 100) (hc : c.lines.length ≤ 1000) (hk : c.kind = 1) : FnP Tryz.prog 61 [.sl (l.map Stk.aIt), aCl c] (.tup [.sl ((doP l c).1.map Stk.aIt), aRp (doP l c).2]) := by
 have hol := one_len l c.item c.qty
 refine FnP.of Tryz.func61 rfl rfl (by simp) (by simp [AV.cells, aIn, aOut, aLn, aCl, aRp, Stk.aIt, Ssn.aSe, aSt]) (fun G hG => ?_)
 have hN : NoH G.length (.tup [.sl ((doP l c).1.map Stk.aIt), aRp (doP l c).2]) := (by simp [AV.cells, aIn, aOut, aLn, aCl, aRp, Stk.aIt, Ssn.aSe, aSt])
 refine sr fun _ => ?_
 refine ρz ?_
 refine ma ?_
 refine ρo (j := 0) zv93 ?_
 refine ez ?_
 refine AWP.seq (sr fun _ => ?_)
 refine mv ?_
 refine ρm cf46 (fun hg => Stk.checkR_fn l) ?_
 refine ρ2 ?_
 refine ez ?_
 refine ρp (fun h0 => ?_) (fun h0 => ?_)
 · simp at h0
   refine sr fun _ => ?_
   refine mv ?_
   refine ρh cf59 (fun hg => toldR_fn 2 []) ?_
   refine ma ?_
   refine ρ1 sz93 ?_
   refine ez ?_
   refine AWP.ret (thenA_r ?_)
   refine ρj (rs := [.tmp 4, .cell 5 93]) (.cons (.tmp rfl) (.cons (.cellA rfl ((hG.at _ _).trans rfl) U93 rfl sz93 rfl rfl) .nil)) ?_
   rw [do_0 h0]; rfl
 simp at h0
 refine AWP.skip (thenA_n (sr fun _ => ?_))
 refine ρl U84 sz84 ?_
 refine ρA cf71 ?_ (hF := fun hg => checkR_fn c (by omega))
 refine mz ?_
 refine AWP.seq (sr fun _ => ?_)
 refine mv ?_
 refine ρ2 ?_
 refine ez ?_
 refine ρp (fun h1 => ?_) (fun h1 => ?_)
 · simp at h1
   refine sr fun _ => ?_
   refine mv ?_
   refine mv ?_
   refine ρh cf59 (fun hg => toldR_fn (checkP c) []) ?_
   refine ma ?_
   refine ρ1 sz93 ?_
   refine ez ?_
   refine AWP.ret (thenA_r ?_)
   refine ρj (rs := [.tmp 4, .cell 5 93]) (.cons (.tmp rfl) (.cons (.cellA rfl ((hG.at _ _).trans rfl) U93 rfl sz93 rfl rfl) .nil)) ?_
   rw [do_1 h0 h1]; rfl
 simp at h1
 refine AWP.skip (thenA_n (sr fun _ => ?_))
 refine mv ?_
 refine mz ?_
 refine AWP.seq (sr fun _ => ?_)
 refine ρ4 U84 sz3 ?_
 refine ρ7 U3 ?_
 refine ez ?_
 refine AWP.block (sr fun _ => ?_)
 refine ρ2 ?_
 refine mz ?_
 refine ρp (fun h2 => ?_) (fun h2 => ?_)
 · refine AWP.region (fun _ => ?_)
   refine mv ?_
   refine ρ4 U84 sz3 ?_
   refine ρ7 U3 ?_
   refine ρ4 U84 sz3 ?_
   refine ρ7 U3 ?_
   refine ARun.call rfl rfl rfl rfl cf94 (ep rfl) (.cons (ep rfl) (.cons (ep rfl) (.cons (ep rfl) .nil))) rfl (fun hg => Stk.createR_fn l c.item c.qty (by omega)) optN ?_
   refine mv ?_
   refine ρ9 ?_
   refine ρ9 ?_
   refine ma ?_
   refine ma ?_
   refine ⟨_, _, rfl, hG, ?_⟩
   refine blockA_n (thenA_n (AWP.seq ?_))
   refine sr fun _ => ?_
   refine mv ?_
   refine ρ2 ?_
   refine ez ?_
   refine ρp (fun h3 => ?_) (fun h3 => ?_)
   · simp at h3
     refine sr fun _ => ?_
     refine mv ?_
     refine mv ?_
     refine ρh cf59 (fun hg => toldR_fn (Stk.createP l c.item c.qty).2 []) ?_
     refine ma ?_
     refine ρ1 sz93 ?_
     refine ez ?_
     refine AWP.ret (thenA_r ?_)
     refine ρj (rs := [.tmp 4, .cell 5 93]) (.cons (.tmp rfl) (.cons (.cellA rfl ((hG.at _ _).trans rfl) U93 rfl sz93 rfl rfl) .nil)) ?_
     rw [do_2 h0 h1, kind_o (by omega), oneR_n (one_1 hk) h3]; rfl
   simp at h3
   refine AWP.skip (thenA_n (AWP.seq (sr fun _ => ?_)))
   refine ρ4 U84 sz3 ?_
   refine ρ7 U3 ?_
   refine ρ2 ?_
   refine ez ?_
   refine ρp (fun h4 => ?_) (fun h4 => ?_)
   · simp [hk] at h4
   refine AWP.skip (thenA_n (sr fun _ => ?_))
   refine mv ?_
   refine mv ?_
   refine ρ4 U84 sz3 ?_
   refine ρ7 U3 ?_
   refine ρk cf101 ?_ (hF := fun hg => numbers_fn (Stk.createP l c.item c.qty).1 c.item (by omega))
   refine ρh cf59 (fun hg => toldR_fn 0 (numsP (Stk.createP l c.item c.qty).1 c.item)) ?_
   refine ma ?_
   refine ρ1 sz93 ?_
   refine ez ?_
   refine AWP.ret ?_
   refine ρj (rs := [.tmp 4, .cell 5 93]) (.cons (.tmp rfl) (.cons (.cellA rfl ((hG.at _ _).trans rfl) U93 rfl sz93 rfl rfl) .nil)) ?_
   rw [do_2 h0 h1, kind_o (by omega), oneR_y (one_1 hk) h3]; rfl
 simp [hk] at h2
theorem doR2_fn (l : Its) (c : Cl) (hl : l.length ≤ 100) (hc : c.lines.length ≤ 1000) (hk : c.kind = 2) : FnP Tryz.prog 61 [.sl (l.map Stk.aIt), aCl c] (.tup [.sl ((doP l c).1.map Stk.aIt), aRp (doP l c).2]) := by
 have hol := one_len l c.item c.qty
 refine FnP.of Tryz.func61 rfl rfl (by simp) (by simp [AV.cells, aIn, aOut, aLn, aCl, aRp, Stk.aIt, Ssn.aSe, aSt]) (fun G hG => ?_)
 have hN : NoH G.length (.tup [.sl ((doP l c).1.map Stk.aIt), aRp (doP l c).2]) := (by simp [AV.cells, aIn, aOut, aLn, aCl, aRp, Stk.aIt, Ssn.aSe, aSt])
 refine sr fun _ => ?_
 refine ρz ?_
 refine ma ?_
 refine ρo (j := 0) zv93 ?_
 refine ez ?_
 refine AWP.seq (sr fun _ => ?_)
 refine mv ?_
 refine ρm cf46 (fun hg => Stk.checkR_fn l) ?_
 refine ρ2 ?_
 refine ez ?_
 refine ρp (fun h0 => ?_) (fun h0 => ?_)
 · simp at h0
   refine sr fun _ => ?_
   refine mv ?_
   refine ρh cf59 (fun hg => toldR_fn 2 []) ?_
   refine ma ?_
   refine ρ1 sz93 ?_
   refine ez ?_
   refine AWP.ret (thenA_r ?_)
   refine ρj (rs := [.tmp 4, .cell 5 93]) (.cons (.tmp rfl) (.cons (.cellA rfl ((hG.at _ _).trans rfl) U93 rfl sz93 rfl rfl) .nil)) ?_
   rw [do_0 h0]; rfl
 simp at h0
 refine AWP.skip (thenA_n (sr fun _ => ?_))
 refine ρl U84 sz84 ?_
 refine ρA cf71 ?_ (hF := fun hg => checkR_fn c (by omega))
 refine mz ?_
 refine AWP.seq (sr fun _ => ?_)
 refine mv ?_
 refine ρ2 ?_
 refine ez ?_
 refine ρp (fun h1 => ?_) (fun h1 => ?_)
 · simp at h1
   refine sr fun _ => ?_
   refine mv ?_
   refine mv ?_
   refine ρh cf59 (fun hg => toldR_fn (checkP c) []) ?_
   refine ma ?_
   refine ρ1 sz93 ?_
   refine ez ?_
   refine AWP.ret (thenA_r ?_)
   refine ρj (rs := [.tmp 4, .cell 5 93]) (.cons (.tmp rfl) (.cons (.cellA rfl ((hG.at _ _).trans rfl) U93 rfl sz93 rfl rfl) .nil)) ?_
   rw [do_1 h0 h1]; rfl
 simp at h1
 refine AWP.skip (thenA_n (sr fun _ => ?_))
 refine mv ?_
 refine mz ?_
 refine AWP.seq (sr fun _ => ?_)
 refine ρ4 U84 sz3 ?_
 refine ρ7 U3 ?_
 refine ez ?_
 refine AWP.block (sr fun _ => ?_)
 refine ρ2 ?_
 refine mz ?_
 refine ρp (fun h2 => ?_) (fun h2 => ?_)
 · simp [hk] at h2
 refine sr fun _ => ?_
 refine ρ2 ?_
 refine mz ?_
 refine ρp (fun h3 => ?_) (fun h3 => ?_)
 · refine AWP.region (fun _ => ?_)
   refine mv ?_
   refine ρ4 U84 sz3 ?_
   refine ρ7 U3 ?_
   refine ρ4 U84 sz3 ?_
   refine ρ7 U3 ?_
   refine ARun.call rfl rfl rfl rfl cf95 (ep rfl) (.cons (ep rfl) (.cons (ep rfl) (.cons (ep rfl) .nil))) rfl (fun hg => Stk.restockR_fn l c.item c.qty (by omega)) optN ?_
   refine mv ?_
   refine ρ9 ?_
   refine ρ9 ?_
   refine ma ?_
   refine ma ?_
   refine ⟨_, _, rfl, hG, ?_⟩
   refine blockA_n (thenA_n (AWP.seq ?_))
   refine sr fun _ => ?_
   refine mv ?_
   refine ρ2 ?_
   refine ez ?_
   refine ρp (fun h4 => ?_) (fun h4 => ?_)
   · simp at h4
     refine sr fun _ => ?_
     refine mv ?_
     refine mv ?_
     refine ρh cf59 (fun hg => toldR_fn (StockP.withP (StockP.inG c.qty) l c.item c.qty).2 []) ?_
     refine ma ?_
     refine ρ1 sz93 ?_
     refine ez ?_
     refine AWP.ret (thenA_r ?_)
     refine ρj (rs := [.tmp 4, .cell 5 93]) (.cons (.tmp rfl) (.cons (.cellA rfl ((hG.at _ _).trans rfl) U93 rfl sz93 rfl rfl) .nil)) ?_
     rw [do_2 h0 h1, kind_o (by omega), oneR_n (one_2 hk) h4]; rfl
   simp at h4
   refine AWP.skip (thenA_n (AWP.seq (sr fun _ => ?_)))
   refine ρ4 U84 sz3 ?_
   refine ρ7 U3 ?_
   refine ρ2 ?_
   refine ez ?_
   refine ρp (fun h5 => ?_) (fun h5 => ?_)
   · simp [hk] at h5
   refine AWP.skip (thenA_n (sr fun _ => ?_))
   refine mv ?_
   refine mv ?_
   refine ρ4 U84 sz3 ?_
   refine ρ7 U3 ?_
   refine ρk cf101 ?_ (hF := fun hg => numbers_fn (StockP.withP (StockP.inG c.qty) l c.item c.qty).1 c.item (by omega))
   refine ρh cf59 (fun hg => toldR_fn 0 (numsP (StockP.withP (StockP.inG c.qty) l c.item c.qty).1 c.item)) ?_
   refine ma ?_
   refine ρ1 sz93 ?_
   refine ez ?_
   refine AWP.ret ?_
   refine ρj (rs := [.tmp 4, .cell 5 93]) (.cons (.tmp rfl) (.cons (.cellA rfl ((hG.at _ _).trans rfl) U93 rfl sz93 rfl rfl) .nil)) ?_
   rw [do_2 h0 h1, kind_o (by omega), oneR_y (one_2 hk) h4]; rfl
 simp [hk] at h3
theorem doR3_fn (l : Its) (c : Cl) (hl : l.length ≤ 100) (hc : c.lines.length ≤ 1000) (hk : c.kind = 3) : FnP Tryz.prog 61 [.sl (l.map Stk.aIt), aCl c] (.tup [.sl ((doP l c).1.map Stk.aIt), aRp (doP l c).2]) := by
 have hol := one_len l c.item c.qty
 have hgm := Stk.goesM_1 l c.item c.qty
 have hgl : (Stk.goesM l c.item c.qty 1).1.length ≤ l.length := by rw [hgm]; exact hol.2.2.1
 refine FnP.of Tryz.func61 rfl rfl (by simp) (by simp [AV.cells, aIn, aOut, aLn, aCl, aRp, Stk.aIt, Ssn.aSe, aSt]) (fun G hG => ?_)
 have hN : NoH G.length (.tup [.sl ((doP l c).1.map Stk.aIt), aRp (doP l c).2]) := (by simp [AV.cells, aIn, aOut, aLn, aCl, aRp, Stk.aIt, Ssn.aSe, aSt])
 refine sr fun _ => ?_
 refine ρz ?_
 refine ma ?_
 refine ρo (j := 0) zv93 ?_
 refine ez ?_
 refine AWP.seq (sr fun _ => ?_)
 refine mv ?_
 refine ρm cf46 (fun hg => Stk.checkR_fn l) ?_
 refine ρ2 ?_
 refine ez ?_
 refine ρp (fun h0 => ?_) (fun h0 => ?_)
 · simp at h0
   refine sr fun _ => ?_
   refine mv ?_
   refine ρh cf59 (fun hg => toldR_fn 2 []) ?_
   refine ma ?_
   refine ρ1 sz93 ?_
   refine ez ?_
   refine AWP.ret (thenA_r ?_)
   refine ρj (rs := [.tmp 4, .cell 5 93]) (.cons (.tmp rfl) (.cons (.cellA rfl ((hG.at _ _).trans rfl) U93 rfl sz93 rfl rfl) .nil)) ?_
   rw [do_0 h0]; rfl
 simp at h0
 refine AWP.skip (thenA_n (sr fun _ => ?_))
 refine ρl U84 sz84 ?_
 refine ρA cf71 ?_ (hF := fun hg => checkR_fn c (by omega))
 refine mz ?_
 refine AWP.seq (sr fun _ => ?_)
 refine mv ?_
 refine ρ2 ?_
 refine ez ?_
 refine ρp (fun h1 => ?_) (fun h1 => ?_)
 · simp at h1
   refine sr fun _ => ?_
   refine mv ?_
   refine mv ?_
   refine ρh cf59 (fun hg => toldR_fn (checkP c) []) ?_
   refine ma ?_
   refine ρ1 sz93 ?_
   refine ez ?_
   refine AWP.ret (thenA_r ?_)
   refine ρj (rs := [.tmp 4, .cell 5 93]) (.cons (.tmp rfl) (.cons (.cellA rfl ((hG.at _ _).trans rfl) U93 rfl sz93 rfl rfl) .nil)) ?_
   rw [do_1 h0 h1]; rfl
 simp at h1
 refine AWP.skip (thenA_n (sr fun _ => ?_))
 refine mv ?_
 refine mz ?_
 refine AWP.seq (sr fun _ => ?_)
 refine ρ4 U84 sz3 ?_
 refine ρ7 U3 ?_
 refine ez ?_
 refine AWP.block (sr fun _ => ?_)
 refine ρ2 ?_
 refine mz ?_
 refine ρp (fun h2 => ?_) (fun h2 => ?_)
 · simp [hk] at h2
 refine sr fun _ => ?_
 refine ρ2 ?_
 refine mz ?_
 refine ρp (fun h3 => ?_) (fun h3 => ?_)
 · simp [hk] at h3
 refine AWP.seq (sr fun _ => ?_)
 refine ρ2 ?_
 refine mz ?_
 refine ρp (fun h4 => ?_) (fun h4 => ?_)
 · refine AWP.skip (thenA_n ?_)
   refine ρp (fun h5 => ?_) (fun h5 => ?_)
   · refine AWP.region (fun _ => ?_)
     refine mv ?_
     refine ρ4 U84 sz3 ?_
     refine ρ7 U3 ?_
     refine ρ4 U84 sz3 ?_
     refine ρ7 U3 ?_
     refine ρ4 U84 sz3 ?_
     refine ρ7 U3 ?_
     refine ARun.arith rfl rfl rfl rfl (ep rfl) (ep rfl) rfl (fun hg => i64w (by (try simp at hg); first | omega | exact Nat.zero_lt_succ _)) optN ?_
     refine ARun.call rfl rfl rfl rfl cf96 (ep rfl) (.cons (ep rfl) (.cons (ep rfl) (.cons (ep rfl) (.cons (ep rfl) .nil)))) rfl (fun hg => (show FnP Tryz.prog 96 [.sl (l.map Stk.aIt), .int .i64 c.item, .int .i64 c.qty, .int .i64 (c.kind - 2)] _ from by rw [hk]; exact Stk.goesR_fn l c.item c.qty 1 (by omega))) optN ?_
     refine mv ?_
     refine ρ9 ?_
     refine ρ9 ?_
     refine ma ?_
     refine ma ?_
     refine ⟨_, _, rfl, hG, ?_⟩
     refine blockA_n (thenA_n (AWP.seq ?_))
     refine sr fun _ => ?_
     refine mv ?_
     refine ρ2 ?_
     refine ez ?_
     refine ρp (fun h6 => ?_) (fun h6 => ?_)
     · simp at h6
       refine sr fun _ => ?_
       refine mv ?_
       refine mv ?_
       refine ρh cf59 (fun hg => toldR_fn (Stk.goesM l c.item c.qty 1).2 []) ?_
       refine ma ?_
       refine ρ1 sz93 ?_
       refine ez ?_
       refine AWP.ret (thenA_r ?_)
       refine ρj (rs := [.tmp 4, .cell 5 93]) (.cons (.tmp rfl) (.cons (.cellA rfl ((hG.at _ _).trans rfl) U93 rfl sz93 rfl rfl) .nil)) ?_
       rw [do_2 h0 h1, kind_o (by omega), oneR_n ((one_3 hk).trans hgm.symm) h6]; rfl
     simp at h6
     refine AWP.skip (thenA_n (AWP.seq (sr fun _ => ?_)))
     refine ρ4 U84 sz3 ?_
     refine ρ7 U3 ?_
     refine ρ2 ?_
     refine ez ?_
     refine ρp (fun h7 => ?_) (fun h7 => ?_)
     · simp [hk] at h7
     refine AWP.skip (thenA_n (sr fun _ => ?_))
     refine mv ?_
     refine mv ?_
     refine ρ4 U84 sz3 ?_
     refine ρ7 U3 ?_
     refine ρk cf101 ?_ (hF := fun hg => numbers_fn (Stk.goesM l c.item c.qty 1).1 c.item (by omega))
     refine ρh cf59 (fun hg => toldR_fn 0 (numsP (Stk.goesM l c.item c.qty 1).1 c.item)) ?_
     refine ma ?_
     refine ρ1 sz93 ?_
     refine ez ?_
     refine AWP.ret ?_
     refine ρj (rs := [.tmp 4, .cell 5 93]) (.cons (.tmp rfl) (.cons (.cellA rfl ((hG.at _ _).trans rfl) U93 rfl sz93 rfl rfl) .nil)) ?_
     rw [do_2 h0 h1, kind_o (by omega), oneR_y ((one_3 hk).trans hgm.symm) h6]; rfl
   simp [hk] at h5
 simp [hk] at h4
theorem doR4_fn (l : Its) (c : Cl) (hl : l.length ≤ 100) (hc : c.lines.length ≤ 1000) (hk : c.kind = 4) : FnP Tryz.prog 61 [.sl (l.map Stk.aIt), aCl c] (.tup [.sl ((doP l c).1.map Stk.aIt), aRp (doP l c).2]) := by
 have hol := one_len l c.item c.qty
 have hgm := goesM_2 l c.item c.qty
 have hgl : (Stk.goesM l c.item c.qty 2).1.length ≤ l.length := by rw [hgm]; exact hol.2.2.2.1
 refine FnP.of Tryz.func61 rfl rfl (by simp) (by simp [AV.cells, aIn, aOut, aLn, aCl, aRp, Stk.aIt, Ssn.aSe, aSt]) (fun G hG => ?_)
 have hN : NoH G.length (.tup [.sl ((doP l c).1.map Stk.aIt), aRp (doP l c).2]) := (by simp [AV.cells, aIn, aOut, aLn, aCl, aRp, Stk.aIt, Ssn.aSe, aSt])
 refine sr fun _ => ?_
 refine ρz ?_
 refine ma ?_
 refine ρo (j := 0) zv93 ?_
 refine ez ?_
 refine AWP.seq (sr fun _ => ?_)
 refine mv ?_
 refine ρm cf46 (fun hg => Stk.checkR_fn l) ?_
 refine ρ2 ?_
 refine ez ?_
 refine ρp (fun h0 => ?_) (fun h0 => ?_)
 · simp at h0
   refine sr fun _ => ?_
   refine mv ?_
   refine ρh cf59 (fun hg => toldR_fn 2 []) ?_
   refine ma ?_
   refine ρ1 sz93 ?_
   refine ez ?_
   refine AWP.ret (thenA_r ?_)
   refine ρj (rs := [.tmp 4, .cell 5 93]) (.cons (.tmp rfl) (.cons (.cellA rfl ((hG.at _ _).trans rfl) U93 rfl sz93 rfl rfl) .nil)) ?_
   rw [do_0 h0]; rfl
 simp at h0
 refine AWP.skip (thenA_n (sr fun _ => ?_))
 refine ρl U84 sz84 ?_
 refine ρA cf71 ?_ (hF := fun hg => checkR_fn c (by omega))
 refine mz ?_
 refine AWP.seq (sr fun _ => ?_)
 refine mv ?_
 refine ρ2 ?_
 refine ez ?_
 refine ρp (fun h1 => ?_) (fun h1 => ?_)
 · simp at h1
   refine sr fun _ => ?_
   refine mv ?_
   refine mv ?_
   refine ρh cf59 (fun hg => toldR_fn (checkP c) []) ?_
   refine ma ?_
   refine ρ1 sz93 ?_
   refine ez ?_
   refine AWP.ret (thenA_r ?_)
   refine ρj (rs := [.tmp 4, .cell 5 93]) (.cons (.tmp rfl) (.cons (.cellA rfl ((hG.at _ _).trans rfl) U93 rfl sz93 rfl rfl) .nil)) ?_
   rw [do_1 h0 h1]; rfl
 simp at h1
 refine AWP.skip (thenA_n (sr fun _ => ?_))
 refine mv ?_
 refine mz ?_
 refine AWP.seq (sr fun _ => ?_)
 refine ρ4 U84 sz3 ?_
 refine ρ7 U3 ?_
 refine ez ?_
 refine AWP.block (sr fun _ => ?_)
 refine ρ2 ?_
 refine mz ?_
 refine ρp (fun h2 => ?_) (fun h2 => ?_)
 · simp [hk] at h2
 refine sr fun _ => ?_
 refine ρ2 ?_
 refine mz ?_
 refine ρp (fun h3 => ?_) (fun h3 => ?_)
 · simp [hk] at h3
 refine AWP.seq (sr fun _ => ?_)
 refine ρ2 ?_
 refine mz ?_
 refine ρp (fun h4 => ?_) (fun h4 => ?_)
 · simp [hk] at h4
 refine sr fun _ => ?_
 refine ρ2 ?_
 refine mz ?_
 refine ρp (fun h5 => ?_) (fun h5 => ?_)
 · refine AWP.skip (thenA_n ?_)
   refine ρp (fun h6 => ?_) (fun h6 => ?_)
   · refine AWP.region (fun _ => ?_)
     refine mv ?_
     refine ρ4 U84 sz3 ?_
     refine ρ7 U3 ?_
     refine ρ4 U84 sz3 ?_
     refine ρ7 U3 ?_
     refine ρ4 U84 sz3 ?_
     refine ρ7 U3 ?_
     refine ARun.arith rfl rfl rfl rfl (ep rfl) (ep rfl) rfl (fun hg => i64w (by (try simp at hg); first | omega | exact Nat.zero_lt_succ _)) optN ?_
     refine ARun.call rfl rfl rfl rfl cf96 (ep rfl) (.cons (ep rfl) (.cons (ep rfl) (.cons (ep rfl) (.cons (ep rfl) .nil)))) rfl (fun hg => (show FnP Tryz.prog 96 [.sl (l.map Stk.aIt), .int .i64 c.item, .int .i64 c.qty, .int .i64 (c.kind - 2)] _ from by rw [hk]; exact Stk.goesR_fn l c.item c.qty 2 (by omega))) optN ?_
     refine mv ?_
     refine ρ9 ?_
     refine ρ9 ?_
     refine ma ?_
     refine ma ?_
     refine ⟨_, _, rfl, hG, ?_⟩
     refine blockA_n (thenA_n (AWP.seq ?_))
     refine sr fun _ => ?_
     refine mv ?_
     refine ρ2 ?_
     refine ez ?_
     refine ρp (fun h7 => ?_) (fun h7 => ?_)
     · simp at h7
       refine sr fun _ => ?_
       refine mv ?_
       refine mv ?_
       refine ρh cf59 (fun hg => toldR_fn (Stk.goesM l c.item c.qty 2).2 []) ?_
       refine ma ?_
       refine ρ1 sz93 ?_
       refine ez ?_
       refine AWP.ret (thenA_r ?_)
       refine ρj (rs := [.tmp 4, .cell 5 93]) (.cons (.tmp rfl) (.cons (.cellA rfl ((hG.at _ _).trans rfl) U93 rfl sz93 rfl rfl) .nil)) ?_
       rw [do_2 h0 h1, kind_o (by omega), oneR_n ((one_4 hk).trans hgm.symm) h7]; rfl
     simp at h7
     refine AWP.skip (thenA_n (AWP.seq (sr fun _ => ?_)))
     refine ρ4 U84 sz3 ?_
     refine ρ7 U3 ?_
     refine ρ2 ?_
     refine ez ?_
     refine ρp (fun h8 => ?_) (fun h8 => ?_)
     · simp [hk] at h8
     refine AWP.skip (thenA_n (sr fun _ => ?_))
     refine mv ?_
     refine mv ?_
     refine ρ4 U84 sz3 ?_
     refine ρ7 U3 ?_
     refine ρk cf101 ?_ (hF := fun hg => numbers_fn (Stk.goesM l c.item c.qty 2).1 c.item (by omega))
     refine ρh cf59 (fun hg => toldR_fn 0 (numsP (Stk.goesM l c.item c.qty 2).1 c.item)) ?_
     refine ma ?_
     refine ρ1 sz93 ?_
     refine ez ?_
     refine AWP.ret ?_
     refine ρj (rs := [.tmp 4, .cell 5 93]) (.cons (.tmp rfl) (.cons (.cellA rfl ((hG.at _ _).trans rfl) U93 rfl sz93 rfl rfl) .nil)) ?_
     rw [do_2 h0 h1, kind_o (by omega), oneR_y ((one_4 hk).trans hgm.symm) h7]; rfl
   simp [hk] at h6
 simp [hk] at h5
theorem doR5_fn (l : Its) (c : Cl) (hl : l.length ≤ 100) (hc : c.lines.length ≤ 1000) (hk : c.kind = 5) : FnP Tryz.prog 61 [.sl (l.map Stk.aIt), aCl c] (.tup [.sl ((doP l c).1.map Stk.aIt), aRp (doP l c).2]) := by
 have hol := one_len l c.item c.qty
 have hgm := goesM_3 l c.item c.qty
 have hgl : (Stk.goesM l c.item c.qty 3).1.length ≤ l.length := by rw [hgm]; exact hol.2.2.2.2
 refine FnP.of Tryz.func61 rfl rfl (by simp) (by simp [AV.cells, aIn, aOut, aLn, aCl, aRp, Stk.aIt, Ssn.aSe, aSt]) (fun G hG => ?_)
 have hN : NoH G.length (.tup [.sl ((doP l c).1.map Stk.aIt), aRp (doP l c).2]) := (by simp [AV.cells, aIn, aOut, aLn, aCl, aRp, Stk.aIt, Ssn.aSe, aSt])
 refine sr fun _ => ?_
 refine ρz ?_
 refine ma ?_
 refine ρo (j := 0) zv93 ?_
 refine ez ?_
 refine AWP.seq (sr fun _ => ?_)
 refine mv ?_
 refine ρm cf46 (fun hg => Stk.checkR_fn l) ?_
 refine ρ2 ?_
 refine ez ?_
 refine ρp (fun h0 => ?_) (fun h0 => ?_)
 · simp at h0
   refine sr fun _ => ?_
   refine mv ?_
   refine ρh cf59 (fun hg => toldR_fn 2 []) ?_
   refine ma ?_
   refine ρ1 sz93 ?_
   refine ez ?_
   refine AWP.ret (thenA_r ?_)
   refine ρj (rs := [.tmp 4, .cell 5 93]) (.cons (.tmp rfl) (.cons (.cellA rfl ((hG.at _ _).trans rfl) U93 rfl sz93 rfl rfl) .nil)) ?_
   rw [do_0 h0]; rfl
 simp at h0
 refine AWP.skip (thenA_n (sr fun _ => ?_))
 refine ρl U84 sz84 ?_
 refine ρA cf71 ?_ (hF := fun hg => checkR_fn c (by omega))
 refine mz ?_
 refine AWP.seq (sr fun _ => ?_)
 refine mv ?_
 refine ρ2 ?_
 refine ez ?_
 refine ρp (fun h1 => ?_) (fun h1 => ?_)
 · simp at h1
   refine sr fun _ => ?_
   refine mv ?_
   refine mv ?_
   refine ρh cf59 (fun hg => toldR_fn (checkP c) []) ?_
   refine ma ?_
   refine ρ1 sz93 ?_
   refine ez ?_
   refine AWP.ret (thenA_r ?_)
   refine ρj (rs := [.tmp 4, .cell 5 93]) (.cons (.tmp rfl) (.cons (.cellA rfl ((hG.at _ _).trans rfl) U93 rfl sz93 rfl rfl) .nil)) ?_
   rw [do_1 h0 h1]; rfl
 simp at h1
 refine AWP.skip (thenA_n (sr fun _ => ?_))
 refine mv ?_
 refine mz ?_
 refine AWP.seq (sr fun _ => ?_)
 refine ρ4 U84 sz3 ?_
 refine ρ7 U3 ?_
 refine ez ?_
 refine AWP.block (sr fun _ => ?_)
 refine ρ2 ?_
 refine mz ?_
 refine ρp (fun h2 => ?_) (fun h2 => ?_)
 · simp [hk] at h2
 refine sr fun _ => ?_
 refine ρ2 ?_
 refine mz ?_
 refine ρp (fun h3 => ?_) (fun h3 => ?_)
 · simp [hk] at h3
 refine AWP.seq (sr fun _ => ?_)
 refine ρ2 ?_
 refine mz ?_
 refine ρp (fun h4 => ?_) (fun h4 => ?_)
 · simp [hk] at h4
 refine sr fun _ => ?_
 refine ρ2 ?_
 refine mz ?_
 refine ρp (fun h5 => ?_) (fun h5 => ?_)
 · simp [hk] at h5
 refine AWP.region (fun _ => ?_)
 refine ρ2 ?_
 refine mz ?_
 refine ρp (fun h6 => ?_) (fun h6 => ?_)
 · refine AWP.region (fun _ => ?_)
   refine mv ?_
   refine ρ4 U84 sz3 ?_
   refine ρ7 U3 ?_
   refine ρ4 U84 sz3 ?_
   refine ρ7 U3 ?_
   refine ρ4 U84 sz3 ?_
   refine ρ7 U3 ?_
   refine ARun.arith rfl rfl rfl rfl (ep rfl) (ep rfl) rfl (fun hg => i64w (by (try simp at hg); first | omega | exact Nat.zero_lt_succ _)) optN ?_
   refine ARun.call rfl rfl rfl rfl cf96 (ep rfl) (.cons (ep rfl) (.cons (ep rfl) (.cons (ep rfl) (.cons (ep rfl) .nil)))) rfl (fun hg => (show FnP Tryz.prog 96 [.sl (l.map Stk.aIt), .int .i64 c.item, .int .i64 c.qty, .int .i64 (c.kind - 2)] _ from by rw [hk]; exact Stk.goesR_fn l c.item c.qty 3 (by omega))) optN ?_
   refine mv ?_
   refine ρ9 ?_
   refine ρ9 ?_
   refine ma ?_
   refine ma ?_
   refine ⟨_, _, rfl, hG, ?_⟩
   refine blockA_n (thenA_n (AWP.seq ?_))
   refine sr fun _ => ?_
   refine mv ?_
   refine ρ2 ?_
   refine ez ?_
   refine ρp (fun h7 => ?_) (fun h7 => ?_)
   · simp at h7
     refine sr fun _ => ?_
     refine mv ?_
     refine mv ?_
     refine ρh cf59 (fun hg => toldR_fn (Stk.goesM l c.item c.qty 3).2 []) ?_
     refine ma ?_
     refine ρ1 sz93 ?_
     refine ez ?_
     refine AWP.ret (thenA_r ?_)
     refine ρj (rs := [.tmp 4, .cell 5 93]) (.cons (.tmp rfl) (.cons (.cellA rfl ((hG.at _ _).trans rfl) U93 rfl sz93 rfl rfl) .nil)) ?_
     rw [do_2 h0 h1, kind_o (by omega), oneR_n ((one_5 hk).trans hgm.symm) h7]; rfl
   simp at h7
   refine AWP.skip (thenA_n (AWP.seq (sr fun _ => ?_)))
   refine ρ4 U84 sz3 ?_
   refine ρ7 U3 ?_
   refine ρ2 ?_
   refine ez ?_
   refine ρp (fun h8 => ?_) (fun h8 => ?_)
   · simp [hk] at h8
   refine AWP.skip (thenA_n (sr fun _ => ?_))
   refine mv ?_
   refine mv ?_
   refine ρ4 U84 sz3 ?_
   refine ρ7 U3 ?_
   refine ρk cf101 ?_ (hF := fun hg => numbers_fn (Stk.goesM l c.item c.qty 3).1 c.item (by omega))
   refine ρh cf59 (fun hg => toldR_fn 0 (numsP (Stk.goesM l c.item c.qty 3).1 c.item)) ?_
   refine ma ?_
   refine ρ1 sz93 ?_
   refine ez ?_
   refine AWP.ret ?_
   refine ρj (rs := [.tmp 4, .cell 5 93]) (.cons (.tmp rfl) (.cons (.cellA rfl ((hG.at _ _).trans rfl) U93 rfl sz93 rfl rfl) .nil)) ?_
   rw [do_2 h0 h1, kind_o (by omega), oneR_y ((one_5 hk).trans hgm.symm) h7]; rfl
 simp [hk] at h6
theorem doR6_fn (l : Its) (c : Cl) (hl : l.length ≤ 100) (hc : c.lines.length ≤ 1000) (hk : c.kind = 6) : FnP Tryz.prog 61 [.sl (l.map Stk.aIt), aCl c] (.tup [.sl ((doP l c).1.map Stk.aIt), aRp (doP l c).2]) := by
 have hml : (mvP l c).1.length ≤ l.length := Stk.move_len l c.item c.to_ c.qty
 refine FnP.of Tryz.func61 rfl rfl (by simp) (by simp [AV.cells, aIn, aOut, aLn, aCl, aRp, Stk.aIt, Ssn.aSe, aSt]) (fun G hG => ?_)
 have hN : NoH G.length (.tup [.sl ((doP l c).1.map Stk.aIt), aRp (doP l c).2]) := (by simp [AV.cells, aIn, aOut, aLn, aCl, aRp, Stk.aIt, Ssn.aSe, aSt])
 refine sr fun _ => ?_
 refine ρz ?_
 refine ma ?_
 refine ρo (j := 0) zv93 ?_
 refine ez ?_
 refine AWP.seq (sr fun _ => ?_)
 refine mv ?_
 refine ρm cf46 (fun hg => Stk.checkR_fn l) ?_
 refine ρ2 ?_
 refine ez ?_
 refine ρp (fun h0 => ?_) (fun h0 => ?_)
 · simp at h0
   refine sr fun _ => ?_
   refine mv ?_
   refine ρh cf59 (fun hg => toldR_fn 2 []) ?_
   refine ma ?_
   refine ρ1 sz93 ?_
   refine ez ?_
   refine AWP.ret (thenA_r ?_)
   refine ρj (rs := [.tmp 4, .cell 5 93]) (.cons (.tmp rfl) (.cons (.cellA rfl ((hG.at _ _).trans rfl) U93 rfl sz93 rfl rfl) .nil)) ?_
   rw [do_0 h0]; rfl
 simp at h0
 refine AWP.skip (thenA_n (sr fun _ => ?_))
 refine ρl U84 sz84 ?_
 refine ρA cf71 ?_ (hF := fun hg => checkR_fn c (by omega))
 refine mz ?_
 refine AWP.seq (sr fun _ => ?_)
 refine mv ?_
 refine ρ2 ?_
 refine ez ?_
 refine ρp (fun h1 => ?_) (fun h1 => ?_)
 · simp at h1
   refine sr fun _ => ?_
   refine mv ?_
   refine mv ?_
   refine ρh cf59 (fun hg => toldR_fn (checkP c) []) ?_
   refine ma ?_
   refine ρ1 sz93 ?_
   refine ez ?_
   refine AWP.ret (thenA_r ?_)
   refine ρj (rs := [.tmp 4, .cell 5 93]) (.cons (.tmp rfl) (.cons (.cellA rfl ((hG.at _ _).trans rfl) U93 rfl sz93 rfl rfl) .nil)) ?_
   rw [do_1 h0 h1]; rfl
 simp at h1
 refine AWP.skip (thenA_n (sr fun _ => ?_))
 refine mv ?_
 refine mz ?_
 refine AWP.seq (sr fun _ => ?_)
 refine ρ4 U84 sz3 ?_
 refine ρ7 U3 ?_
 refine ez ?_
 refine AWP.block (sr fun _ => ?_)
 refine ρ2 ?_
 refine mz ?_
 refine ρp (fun h2 => ?_) (fun h2 => ?_)
 · simp [hk] at h2
 refine sr fun _ => ?_
 refine ρ2 ?_
 refine mz ?_
 refine ρp (fun h3 => ?_) (fun h3 => ?_)
 · simp [hk] at h3
 refine AWP.seq (sr fun _ => ?_)
 refine ρ2 ?_
 refine mz ?_
 refine ρp (fun h4 => ?_) (fun h4 => ?_)
 · simp [hk] at h4
 refine sr fun _ => ?_
 refine ρ2 ?_
 refine mz ?_
 refine ρp (fun h5 => ?_) (fun h5 => ?_)
 · simp [hk] at h5
 refine AWP.region (fun _ => ?_)
 refine ρ2 ?_
 refine mz ?_
 refine ρp (fun h6 => ?_) (fun h6 => ?_)
 · simp [hk] at h6
 refine sr fun _ => ?_
 refine ρ2 ?_
 refine mz ?_
 refine ρp (fun h7 => ?_) (fun h7 => ?_)
 · refine AWP.region (fun _ => ?_)
   refine mv ?_
   refine ρ4 U84 sz3 ?_
   refine ρ7 U3 ?_
   refine ρ4 U84 sz3 ?_
   refine ρ7 U3 ?_
   refine ρ4 U84 sz3 ?_
   refine ρ7 U3 ?_
   refine ARun.call rfl rfl rfl rfl cf97 (ep rfl) (.cons (ep rfl) (.cons (ep rfl) (.cons (ep rfl) (.cons (ep rfl) .nil)))) rfl (fun hg => Stk.moveR_fn l c.item c.to_ c.qty (by omega)) optN ?_
   refine mv ?_
   refine ρ9 ?_
   refine ρ9 ?_
   refine ma ?_
   refine ma ?_
   refine ⟨_, _, rfl, hG, ?_⟩
   refine blockA_n (thenA_n (AWP.seq ?_))
   refine sr fun _ => ?_
   refine mv ?_
   refine ρ2 ?_
   refine ez ?_
   refine ρp (fun h8 => ?_) (fun h8 => ?_)
   · simp at h8
     refine sr fun _ => ?_
     refine mv ?_
     refine mv ?_
     refine ρh cf59 (fun hg => toldR_fn (mvP l c).2 []) ?_
     refine ma ?_
     refine ρ1 sz93 ?_
     refine ez ?_
     refine AWP.ret (thenA_r ?_)
     refine ρj (rs := [.tmp 4, .cell 5 93]) (.cons (.tmp rfl) (.cons (.cellA rfl ((hG.at _ _).trans rfl) U93 rfl sz93 rfl rfl) .nil)) ?_
     rw [do_2 h0 h1, kind_6 hk, moveR, if_neg h8]; rfl
   simp at h8
   refine AWP.skip (thenA_n (AWP.seq (sr fun _ => ?_)))
   refine ρ4 U84 sz3 ?_
   refine ρ7 U3 ?_
   refine ρ2 ?_
   refine ez ?_
   refine ρp (fun h9 => ?_) (fun h9 => ?_)
   · refine AWP.seq ?_
     refine ρE mixed (fun _ => ?_)
     refine mv ?_
     refine mv ?_
     refine ρ4 U84 sz3 ?_
     refine ρ7 U3 ?_
     refine ρk cf101 ?_ (hF := fun hg => numbers_fn (mvP l c).1 c.item (by omega))
     refine ARun.indexSl rfl rfl rfl rfl U40 sz3 (ep rfl) (ep rfl) (fun _ => rfl) (fun hg => getMap _ _ _ (by (try simp at hg); first | omega | exact Nat.zero_lt_succ _)) rfl rfl optN ?_
     refine ρ7 U3 ?_
     refine mv ?_
     refine ρ4 U84 sz3 ?_
     refine ρ7 U3 ?_
     refine ρk cf101 ?_ (hF := fun hg => numbers_fn (mvP l c).1 c.to_ (by omega))
     refine ARun.indexSl rfl rfl rfl rfl U40 sz3 (ep rfl) (ep rfl) (fun _ => rfl) (fun hg => getMap _ _ _ (by (try simp at hg); first | omega | exact Nat.zero_lt_succ _)) rfl rfl optN ?_
     refine ρ7 U3 ?_
     refine ARun.buildSl rfl rfl rfl rfl U40 sz3 zv3 rfl (by decide) (.cons (ep rfl) (.cons (ep rfl) .nil)) rfl rfl rfl rfl (by decide) rfl rfl optN ?_
     refine ρh cf59 (fun hg => toldR_fn 0 [(tF (mvP l c).1 c.item).free, (tF (mvP l c).1 c.to_).free]) ?_
     refine ma ?_
     refine ρ1 sz93 ?_
     refine ⟨by kernel_rfl, _, _, rfl, hG, ?_⟩
     refine thenA_n (AWP.ret (thenA_r ?_))
     refine ρj (rs := [.tmp 4, .cell 5 93]) (.cons (.tmp rfl) (.cons (.cellA rfl ((hG.at _ _).trans rfl) U93 rfl sz93 rfl rfl) .nil)) ?_
     rw [do_2 h0 h1, kind_6 hk, moveR, if_pos h8]; rfl
   simp [hk] at h9
 simp [hk] at h7
theorem doR7_fn (l : Its) (c : Cl) (hl : l.length ≤ 100) (hc : c.lines.length ≤ 1000) (hk : c.kind = 7) : FnP Tryz.prog 61 [.sl (l.map Stk.aIt), aCl c] (.tup [.sl ((doP l c).1.map Stk.aIt), aRp (doP l c).2]) := by
 refine FnP.of Tryz.func61 rfl rfl (by simp) (by simp [AV.cells, aIn, aOut, aLn, aCl, aRp, Stk.aIt, Ssn.aSe, aSt]) (fun G hG => ?_)
 have hN : NoH G.length (.tup [.sl ((doP l c).1.map Stk.aIt), aRp (doP l c).2]) := (by simp [AV.cells, aIn, aOut, aLn, aCl, aRp, Stk.aIt, Ssn.aSe, aSt])
 refine sr fun _ => ?_
 refine ρz ?_
 refine ma ?_
 refine ρo (j := 0) zv93 ?_
 refine ez ?_
 refine AWP.seq (sr fun _ => ?_)
 refine mv ?_
 refine ρm cf46 (fun hg => Stk.checkR_fn l) ?_
 refine ρ2 ?_
 refine ez ?_
 refine ρp (fun h0 => ?_) (fun h0 => ?_)
 · simp at h0
   refine sr fun _ => ?_
   refine mv ?_
   refine ρh cf59 (fun hg => toldR_fn 2 []) ?_
   refine ma ?_
   refine ρ1 sz93 ?_
   refine ez ?_
   refine AWP.ret (thenA_r ?_)
   refine ρj (rs := [.tmp 4, .cell 5 93]) (.cons (.tmp rfl) (.cons (.cellA rfl ((hG.at _ _).trans rfl) U93 rfl sz93 rfl rfl) .nil)) ?_
   rw [do_0 h0]; rfl
 simp at h0
 refine AWP.skip (thenA_n (sr fun _ => ?_))
 refine ρl U84 sz84 ?_
 refine ρA cf71 ?_ (hF := fun hg => checkR_fn c (by omega))
 refine mz ?_
 refine AWP.seq (sr fun _ => ?_)
 refine mv ?_
 refine ρ2 ?_
 refine ez ?_
 refine ρp (fun h1 => ?_) (fun h1 => ?_)
 · simp at h1
   refine sr fun _ => ?_
   refine mv ?_
   refine mv ?_
   refine ρh cf59 (fun hg => toldR_fn (checkP c) []) ?_
   refine ma ?_
   refine ρ1 sz93 ?_
   refine ez ?_
   refine AWP.ret (thenA_r ?_)
   refine ρj (rs := [.tmp 4, .cell 5 93]) (.cons (.tmp rfl) (.cons (.cellA rfl ((hG.at _ _).trans rfl) U93 rfl sz93 rfl rfl) .nil)) ?_
   rw [do_1 h0 h1]; rfl
 simp at h1
 refine AWP.skip (thenA_n (sr fun _ => ?_))
 refine mv ?_
 refine mz ?_
 refine AWP.seq (sr fun _ => ?_)
 refine ρ4 U84 sz3 ?_
 refine ρ7 U3 ?_
 refine ez ?_
 refine AWP.block (sr fun _ => ?_)
 refine ρ2 ?_
 refine mz ?_
 refine ρp (fun h2 => ?_) (fun h2 => ?_)
 · simp [hk] at h2
 refine sr fun _ => ?_
 refine ρ2 ?_
 refine mz ?_
 refine ρp (fun h3 => ?_) (fun h3 => ?_)
 · simp [hk] at h3
 refine AWP.seq (sr fun _ => ?_)
 refine ρ2 ?_
 refine mz ?_
 refine ρp (fun h4 => ?_) (fun h4 => ?_)
 · simp [hk] at h4
 refine sr fun _ => ?_
 refine ρ2 ?_
 refine mz ?_
 refine ρp (fun h5 => ?_) (fun h5 => ?_)
 · simp [hk] at h5
 refine AWP.region (fun _ => ?_)
 refine ρ2 ?_
 refine mz ?_
 refine ρp (fun h6 => ?_) (fun h6 => ?_)
 · simp [hk] at h6
 refine sr fun _ => ?_
 refine ρ2 ?_
 refine mz ?_
 refine ρp (fun h7 => ?_) (fun h7 => ?_)
 · simp [hk] at h7
 refine sr fun _ => ?_
 refine ρ2 ?_
 refine mz ?_
 refine ρp (fun h8 => ?_) (fun h8 => ?_)
 · refine sr fun _ => ?_
   refine mv ?_
   refine ρ4 U84 sz3 ?_
   refine ρ7 U3 ?_
   refine ρk cf98 ?_ (hF := fun hg => Stk.findR_fn l c.item (by omega))
   refine mv ?_
   refine ρ9 ?_
   refine ρ9 ?_
   refine ρo (j := 1) zv108 ?_
   refine ρ1 sz108 ?_
   refine mz (sr fun _ => ?_)
   refine mv ?_
   refine ρC ?_
   refine ez ?_
   refine ρp (fun h9 => ?_) (fun h9 => ?_)
   · simp at h9
     refine AWP.region (fun _ => ?_)
     refine ma ?_
     refine ⟨_, _, rfl, hG, ?_⟩
     refine blockA_n (thenA_n (AWP.seq ?_))
     refine sr fun _ => ?_
     refine mv ?_
     refine ρ2 ?_
     refine ez ?_
     refine ρp (fun h10 => ?_) (fun h10 => ?_)
     · refine sr fun _ => ?_
       refine mv ?_
       refine mv ?_
       refine ρh cf59 (fun hg => toldR_fn 40 []) ?_
       refine ma ?_
       refine ρ1 sz93 ?_
       refine ez ?_
       refine AWP.ret (thenA_r ?_)
       refine ρj (rs := [.tmp 4, .cell 5 93]) (.cons (.tmp rfl) (.cons (.cellA rfl ((hG.at _ _).trans rfl) U93 rfl sz93 rfl rfl) .nil)) ?_
       rw [do_2 h0 h1, kind_7 hk, queryR, if_neg (by simp [h9])]; rfl
     simp at h10
   simp at h9
   refine AWP.skip (blockA_n ?_)
   refine thenA_n (AWP.seq ?_)
   refine sr fun _ => ?_
   refine mv ?_
   refine ρ2 ?_
   refine ez ?_
   refine ρp (fun h11 => ?_) (fun h11 => ?_)
   · simp [h1] at h11
   refine AWP.skip (thenA_n (AWP.seq (sr fun _ => ?_)))
   refine ρ4 U84 sz3 ?_
   refine ρ7 U3 ?_
   refine ρ2 ?_
   refine ez ?_
   refine ρp (fun h12 => ?_) (fun h12 => ?_)
   · simp [hk] at h12
   refine AWP.skip (thenA_n (sr fun _ => ?_))
   refine mv ?_
   refine mv ?_
   refine ρ4 U84 sz3 ?_
   refine ρ7 U3 ?_
   refine ρk cf101 ?_ (hF := fun hg => numbers_fn l c.item (by omega))
   refine ρh cf59 (fun hg => toldR_fn 0 (numsP l c.item)) ?_
   refine ma ?_
   refine ρ1 sz93 ?_
   refine ez ?_
   refine AWP.ret ?_
   refine ρj (rs := [.tmp 4, .cell 5 93]) (.cons (.tmp rfl) (.cons (.cellA rfl ((hG.at _ _).trans rfl) U93 rfl sz93 rfl rfl) .nil)) ?_
   rw [do_2 h0 h1, kind_7 hk, queryR, if_pos h9]; rfl
 simp [hk] at h8
theorem doR8_fn (l : Its) (c : Cl) (hl : l.length ≤ 100) (hc : c.lines.length ≤ 1000) (hk : c.kind = 8) : FnP Tryz.prog 61 [.sl (l.map Stk.aIt), aCl c] (.tup [.sl ((doP l c).1.map Stk.aIt), aRp (doP l c).2]) := by
 refine FnP.of Tryz.func61 rfl rfl (by simp) (by simp [AV.cells, aIn, aOut, aLn, aCl, aRp, Stk.aIt, Ssn.aSe, aSt]) (fun G hG => ?_)
 have hN : NoH G.length (.tup [.sl ((doP l c).1.map Stk.aIt), aRp (doP l c).2]) := (by simp [AV.cells, aIn, aOut, aLn, aCl, aRp, Stk.aIt, Ssn.aSe, aSt])
 refine sr fun _ => ?_
 refine ρz ?_
 refine ma ?_
 refine ρo (j := 0) zv93 ?_
 refine ez ?_
 refine AWP.seq (sr fun _ => ?_)
 refine mv ?_
 refine ρm cf46 (fun hg => Stk.checkR_fn l) ?_
 refine ρ2 ?_
 refine ez ?_
 refine ρp (fun h0 => ?_) (fun h0 => ?_)
 · simp at h0
   refine sr fun _ => ?_
   refine mv ?_
   refine ρh cf59 (fun hg => toldR_fn 2 []) ?_
   refine ma ?_
   refine ρ1 sz93 ?_
   refine ez ?_
   refine AWP.ret (thenA_r ?_)
   refine ρj (rs := [.tmp 4, .cell 5 93]) (.cons (.tmp rfl) (.cons (.cellA rfl ((hG.at _ _).trans rfl) U93 rfl sz93 rfl rfl) .nil)) ?_
   rw [do_0 h0]; rfl
 simp at h0
 refine AWP.skip (thenA_n (sr fun _ => ?_))
 refine ρl U84 sz84 ?_
 refine ρA cf71 ?_ (hF := fun hg => checkR_fn c (by omega))
 refine mz ?_
 refine AWP.seq (sr fun _ => ?_)
 refine mv ?_
 refine ρ2 ?_
 refine ez ?_
 refine ρp (fun h1 => ?_) (fun h1 => ?_)
 · simp at h1
   refine sr fun _ => ?_
   refine mv ?_
   refine mv ?_
   refine ρh cf59 (fun hg => toldR_fn (checkP c) []) ?_
   refine ma ?_
   refine ρ1 sz93 ?_
   refine ez ?_
   refine AWP.ret (thenA_r ?_)
   refine ρj (rs := [.tmp 4, .cell 5 93]) (.cons (.tmp rfl) (.cons (.cellA rfl ((hG.at _ _).trans rfl) U93 rfl sz93 rfl rfl) .nil)) ?_
   rw [do_1 h0 h1]; rfl
 simp at h1
 refine AWP.skip (thenA_n (sr fun _ => ?_))
 refine mv ?_
 refine mz ?_
 refine AWP.seq (sr fun _ => ?_)
 refine ρ4 U84 sz3 ?_
 refine ρ7 U3 ?_
 refine ez ?_
 refine AWP.block (sr fun _ => ?_)
 refine ρ2 ?_
 refine mz ?_
 refine ρp (fun h2 => ?_) (fun h2 => ?_)
 · simp [hk] at h2
 refine sr fun _ => ?_
 refine ρ2 ?_
 refine mz ?_
 refine ρp (fun h3 => ?_) (fun h3 => ?_)
 · simp [hk] at h3
 refine AWP.seq (sr fun _ => ?_)
 refine ρ2 ?_
 refine mz ?_
 refine ρp (fun h4 => ?_) (fun h4 => ?_)
 · simp [hk] at h4
 refine sr fun _ => ?_
 refine ρ2 ?_
 refine mz ?_
 refine ρp (fun h5 => ?_) (fun h5 => ?_)
 · simp [hk] at h5
 refine AWP.region (fun _ => ?_)
 refine ρ2 ?_
 refine mz ?_
 refine ρp (fun h6 => ?_) (fun h6 => ?_)
 · simp [hk] at h6
 refine sr fun _ => ?_
 refine ρ2 ?_
 refine mz ?_
 refine ρp (fun h7 => ?_) (fun h7 => ?_)
 · simp [hk] at h7
 refine sr fun _ => ?_
 refine ρ2 ?_
 refine mz ?_
 refine ρp (fun h8 => ?_) (fun h8 => ?_)
 · simp [hk] at h8
 refine sr fun _ => ?_
 refine mv ?_
 refine ρ4 U84 sz82 ?_
 refine ρ7 U82 ?_
 refine ARun.call rfl rfl rfl rfl cf99 (ep rfl) (.cons (ep rfl) (.cons (ep rfl) (.cons (ep rfl) .nil))) rfl (fun hg => Stk.goesLR_fn l c.lines (by omega)) optN ?_
 refine mv ?_
 refine ρ9 ?_
 refine ρ9 ?_
 refine ρ9 ?_
 refine ma ?_
 refine ma ?_
 refine mz ?_
 refine AWP.seq (sr fun _ => ?_)
 refine mv ?_
 refine ρ2 ?_
 refine ez ?_
 refine ρp (fun h9 => ?_) (fun h9 => ?_)
 · simp at h9
   refine sr fun _ => ?_
   refine mv ?_
   refine mv ?_
   refine mv ?_
   refine ρy U40 sz3 zv3 ?_
   refine ρh cf59 (fun hg => toldR_fn (orP l c).2.2 [(orP l c).2.1]) ?_
   refine ma ?_
   refine ρ1 sz93 ?_
   refine ez ?_
   refine AWP.ret (thenA_r ?_)
   refine blockA_r (thenA_r ?_)
   refine ρj (rs := [.tmp 4, .cell 5 93]) (.cons (.tmp rfl) (.cons (.cellA rfl ((hG.at _ _).trans rfl) U93 rfl sz93 rfl rfl) .nil)) ?_
   rw [do_2 h0 h1, kind_8 hk, orderR, if_neg h9]; rfl
 simp at h9
 refine AWP.skip (thenA_n (sr fun _ => ?_))
 refine mv ?_
 refine ρ4 U84 sz82 ?_
 refine ρ7 U82 ?_
 refine ρm cf100 (fun hg => Stk.totalR_fn c.lines hc) ?_
 refine ρy U40 sz3 zv3 ?_
 refine ρh cf59 (fun hg => toldR_fn 0 [StockP.totalP c.lines]) ?_
 refine ma ?_
 refine ρ1 sz93 ?_
 refine ez ?_
 refine AWP.ret (blockA_r (thenA_r ?_))
 refine ρj (rs := [.tmp 4, .cell 5 93]) (.cons (.tmp rfl) (.cons (.cellA rfl ((hG.at _ _).trans rfl) U93 rfl sz93 rfl rfl) .nil)) ?_
 rw [do_2 h0 h1, kind_8 hk, orderR, if_pos h9]; rfl
theorem doR0_fn (l : Its) (c : Cl) (hl : l.length ≤ 100) (hc : c.lines.length ≤ 1000) (hk : ¬ checkP c = 0) : FnP Tryz.prog 61 [.sl (l.map Stk.aIt), aCl c] (.tup [.sl ((doP l c).1.map Stk.aIt), aRp (doP l c).2]) := by
 refine FnP.of Tryz.func61 rfl rfl (by simp) (by simp [AV.cells, aIn, aOut, aLn, aCl, aRp, Stk.aIt, Ssn.aSe, aSt]) (fun G hG => ?_)
 have hN : NoH G.length (.tup [.sl ((doP l c).1.map Stk.aIt), aRp (doP l c).2]) := (by simp [AV.cells, aIn, aOut, aLn, aCl, aRp, Stk.aIt, Ssn.aSe, aSt])
 refine sr fun _ => ?_
 refine ρz ?_
 refine ma ?_
 refine ρo (j := 0) zv93 ?_
 refine ez ?_
 refine AWP.seq (sr fun _ => ?_)
 refine mv ?_
 refine ρm cf46 (fun hg => Stk.checkR_fn l) ?_
 refine ρ2 ?_
 refine ez ?_
 refine ρp (fun h0 => ?_) (fun h0 => ?_)
 · simp at h0
   refine sr fun _ => ?_
   refine mv ?_
   refine ρh cf59 (fun hg => toldR_fn 2 []) ?_
   refine ma ?_
   refine ρ1 sz93 ?_
   refine ez ?_
   refine AWP.ret (thenA_r ?_)
   refine ρj (rs := [.tmp 4, .cell 5 93]) (.cons (.tmp rfl) (.cons (.cellA rfl ((hG.at _ _).trans rfl) U93 rfl sz93 rfl rfl) .nil)) ?_
   rw [do_0 h0]; rfl
 simp at h0
 refine AWP.skip (thenA_n (sr fun _ => ?_))
 refine ρl U84 sz84 ?_
 refine ρA cf71 ?_ (hF := fun hg => checkR_fn c (by omega))
 refine mz ?_
 refine AWP.seq (sr fun _ => ?_)
 refine mv ?_
 refine ρ2 ?_
 refine ez ?_
 refine ρp (fun h1 => ?_) (fun h1 => ?_)
 · simp at h1
   refine sr fun _ => ?_
   refine mv ?_
   refine mv ?_
   refine ρh cf59 (fun hg => toldR_fn (checkP c) []) ?_
   refine ma ?_
   refine ρ1 sz93 ?_
   refine ez ?_
   refine AWP.ret (thenA_r ?_)
   refine ρj (rs := [.tmp 4, .cell 5 93]) (.cons (.tmp rfl) (.cons (.cellA rfl ((hG.at _ _).trans rfl) U93 rfl sz93 rfl rfl) .nil)) ?_
   rw [do_1 h0 h1]; rfl
 simp [hk] at h1
theorem doR_fn (l : Its) (c : Cl) (hl : l.length ≤ 100) (hc : c.lines.length ≤ 1000) : FnP Tryz.prog 61 [.sl (l.map Stk.aIt), aCl c] (.tup [.sl ((doP l c).1.map Stk.aIt), aRp (doP l c).2]) := by
 by_cases h : checkP c = 0
 · have hk := kind_rng h
   rcases (show c.kind = 1 ∨ c.kind = 2 ∨ c.kind = 3 ∨ c.kind = 4 ∨ c.kind = 5 ∨ c.kind = 6 ∨ c.kind = 7 ∨ c.kind = 8 by omega) with h | h | h | h | h | h | h | h
   · exact doR1_fn l c hl hc h
   · exact doR2_fn l c hl hc h
   · exact doR3_fn l c hl hc h
   · exact doR4_fn l c hl hc h
   · exact doR5_fn l c hl hc h
   · exact doR6_fn l c hl hc h
   · exact doR7_fn l c hl hc h
   exact doR8_fn l c hl hc h
 exact doR0_fn l c hl hc h
theorem applyR_fn (s : St) (p : ByteArray) (hp : p.size ≤ 2000) (h1s : s.1.length ≤ 60) (h2s : s.2.length ≤ 60) : FnP Tryz.prog 40 [aSt s, .str p] (.tup [aSt (applyP s p).1, .str (applyP s p).2]) := by
 have hdl := do_len s.1 (takeC p) h1s
 have htl := takeC_len p
 have hrl := putR_len (doP s.1 (takeC p)).2
 refine FnP.of Tryz.func40 rfl rfl (by simp) (by simp [AV.cells, aIn, aOut, aLn, aCl, aRp, Stk.aIt, Ssn.aSe, aSt]) (fun G hG => ?_)
 have hN : NoH G.length (.tup [aSt (applyP s p).1, .str (applyP s p).2]) := (by simp [AV.cells, aIn, aOut, aLn, aCl, aRp, Stk.aIt, Ssn.aSe, aSt])
 refine sr fun _ => ?_
 refine ρz ?_
 refine ρo (j := 0) zv25 ?_
 refine mz ?_
 refine AWP.seq (sr fun _ => ?_)
 refine ρl U25 sz25 ?_
 refine ρm cf31 (fun hg => chkR_fn s) ?_
 refine ρ2 ?_
 refine ez ?_
 refine ρp (fun h0 => ?_) (fun h0 => ?_)
 · simp at h0
   refine AWP.seq ?_
   refine ρE mixed (fun _ => ?_)
   refine ρl U25 sz25 ?_
   refine ρh cf59 (fun hg => toldR_fn 2 []) ?_
   refine ρA cf58 ?_ (hF := fun hg => bytesR_fn ⟨2, []⟩ (by simp) (by simp))
   refine ρ1 sz25 ?_
   refine ma ?_
   refine ⟨by kernel_rfl, _, _, rfl, hG, ?_⟩
   refine thenA_n (AWP.ret (thenA_r ?_))
   refine ρj (rs := [.cell 4 25, .tmp 5]) (.cons (.cellA rfl ((hG.at _ _).trans rfl) U25 rfl sz25 rfl rfl) (.cons (.tmp rfl) .nil)) ?_
   rw [applyP, if_neg h0]; rfl
 simp at h0
 refine AWP.skip (thenA_n (sr fun _ => ?_))
 refine mv ?_
 refine ρA cf45 ?_ (hF := fun hg => take_R p (by omega))
 refine mv ?_
 refine ρ9 ?_
 refine ρ9 ?_
 refine ρo (j := 1) zv84 ?_
 refine ρ1 sz84 ?_
 refine mz ?_
 refine AWP.seq (sr fun _ => ?_)
 refine mv ?_
 refine ρ2 ?_
 refine ez ?_
 refine ρp (fun h1 => ?_) (fun h1 => ?_)
 · simp at h1
   refine AWP.seq ?_
   refine ρE mixed (fun _ => ?_)
   refine ρl U25 sz25 ?_
   refine mv ?_
   refine ρh cf59 (fun hg => toldR_fn (takeE p) []) ?_
   refine ρA cf58 ?_ (hF := fun hg => bytesR_fn ⟨takeE p, []⟩ (by simp) (by simp))
   refine ρ1 sz25 ?_
   refine ma ?_
   refine ⟨by kernel_rfl, _, _, rfl, hG, ?_⟩
   refine thenA_n (AWP.ret (thenA_r ?_))
   refine ρj (rs := [.cell 4 25, .tmp 5]) (.cons (.cellA rfl ((hG.at _ _).trans rfl) U25 rfl sz25 rfl rfl) (.cons (.tmp rfl) .nil)) ?_
   rw [applyP, if_pos h0, if_neg h1]; rfl
 simp at h1
 refine AWP.skip (thenA_n (sr fun _ => ?_))
 refine ρ4 U25 sz23 ?_
 refine ρ7 U23 ?_
 refine ρ6 (fo := 0) U84 sz3 ?_
 refine ρd U3 ?_
 refine ρ6 (fo := 1) U84 sz3 ?_
 refine ρd U3 ?_
 refine ARun.call rfl rfl rfl rfl cf60 (ep rfl) (.cons (ep rfl) (.cons (ep rfl) (.cons (ep rfl) .nil))) rfl (fun hg => Ssn.askR_fn s.2 (takeC p).client (takeC p).seq (by omega)) optN ?_
 refine mv ?_
 refine ρ9 ?_
 refine ρ9 ?_
 refine ρ9 ?_
 refine ma ?_
 refine ma ?_
 refine mz ?_
 refine AWP.seq (sr fun _ => ?_)
 refine mv ?_
 refine ρ2 ?_
 refine ez ?_
 refine ρp (fun h2 => ?_) (fun h2 => ?_)
 · simp at h2
   refine AWP.seq ?_
   refine ρE mixed (fun _ => ?_)
   refine ρl U25 sz25 ?_
   refine mv ?_
   refine ρh cf59 (fun hg => toldR_fn (asP s p).2.2 []) ?_
   refine ρA cf58 ?_ (hF := fun hg => bytesR_fn ⟨(asP s p).2.2, []⟩ (by simp) (by simp))
   refine ρ1 sz25 ?_
   refine ma ?_
   refine ⟨by kernel_rfl, _, _, rfl, hG, ?_⟩
   refine thenA_n (AWP.ret (thenA_r ?_))
   refine ρj (rs := [.cell 4 25, .tmp 5]) (.cons (.cellA rfl ((hG.at _ _).trans rfl) U25 rfl sz25 rfl rfl) (.cons (.tmp rfl) .nil)) ?_
   rw [applyP, if_pos h0, if_pos h1, if_neg h2]; rfl
 simp at h2
 refine AWP.skip (thenA_n (AWP.seq (sr fun _ => ?_)))
 refine mv ?_
 refine ez ?_
 refine ρp (fun h3 => ?_) (fun h3 => ?_)
 · refine sr fun _ => ?_
   refine ρl U25 sz25 ?_
   refine mv ?_
   refine ρ1 sz25 ?_
   refine mz ?_
   refine AWP.ret (thenA_r ?_)
   refine ρj (rs := [.cell 4 25, .tmp 5]) (.cons (.cellA rfl ((hG.at _ _).trans rfl) U25 rfl sz25 rfl rfl) (.cons (.tmp rfl) .nil)) ?_
   rw [applyP, if_pos h0, if_pos h1, if_pos h2, if_pos h3]; rfl
 try simp at h3
 refine AWP.skip (thenA_n (sr fun _ => ?_))
 refine ρ4 U25 sz22 ?_
 refine ρ7 U22 ?_
 refine ρn U84 sz84 ?_
 refine ρk cf61 ?_ (hF := fun hg => doR_fn s.1 (takeC p) (by omega) (by omega))
 refine mv ?_
 refine ρ9 ?_
 refine ρ9 ?_
 refine ρo (j := 2) zv93 ?_
 refine ma ?_
 refine ρ1 sz93 ?_
 refine ez (sr fun _ => ?_)
 refine ρn U93 sz93 ?_
 refine ρA cf58 ?_ (hF := fun hg => bytesR_fn (doP s.1 (takeC p)).2 (by have := (do_fine s.1 (takeC p)).len; omega) (do_fine s.1 (takeC p)).num)
 refine mz (sr fun _ => ?_)
 refine ρ4 U25 sz23 ?_
 refine ρ7 U23 ?_
 refine ρ6 (fo := 0) U84 sz3 ?_
 refine ρd U3 ?_
 refine ρ6 (fo := 1) U84 sz3 ?_
 refine ρd U3 ?_
 refine mv ?_
 refine ARun.build rfl rfl rfl rfl so75 (.cons (ep rfl) (.cons (ep rfl) (.cons (ep rfl) .nil))) rfl rfl optN ?_
 refine ρk cf62 ?_ (hF := fun hg => Ssn.noteR_fn s.2 (nwP s p) (by omega))
 refine mv ?_
 refine ρ9 ?_
 refine ρ9 ?_
 refine ma ?_
 refine mz (sr fun _ => ?_)
 refine mv ?_
 refine mv ?_
 refine ARun.build rfl rfl rfl rfl so25 (.cons (ep rfl) (.cons (ep rfl) .nil)) rfl rfl optN ?_
 refine mv ?_
 refine ρ1 sz25 ?_
 refine mz ?_
 refine AWP.ret ?_
 refine ρj (rs := [.cell 4 25, .tmp 5]) (.cons (.cellA rfl ((hG.at _ _).trans rfl) U25 rfl sz25 rfl rfl) (.cons (.tmp rfl) .nil)) ?_
 rw [applyP, if_pos h0, if_pos h1, if_pos h2, if_neg (by simp [h3])]; rfl
end Go.Proofs.YtcndnllmlhhjiaaGreatDoor
namespace Go.Proofs.YtcndnllmlhhjiaaGreatDoor
open NumP
def noted (l : Ses) (c q : Int) (r : ByteArray) (k : Nat) : Bool := (l.take k).any fun x => decide (x.client = c) && decide (x.seq = q) && decide (x.reply = r)
def fewS (s : St) : Bool := decide (s.1.length ≤ 60) && Ssn.fewB s.2
theorem fewS_facts {s : St} (h : fewS s = true) : s.1.length ≤ 60 ∧ s.2.length ≤ 60 ∧ ∀ x, x ∈ s.2 → x.reply.size ≤ 1000 := by
 unfold fewS at h
 rw [Bool.and_eq_true, decide_eq_true_eq] at h
 have h2 := h.2
 unfold Ssn.fewB at h2
 simp only [Bool.and_eq_true, decide_eq_true_eq, List.all_eq_true] at h2
 exact ⟨h.1, h2.1, h2.2⟩
end Go.Proofs.YtcndnllmlhhjiaaGreatDoor
namespace Go.Proofs.YtcndnllmlhhjiaaGreatDoor
open Go.RowKit
open NumP

theorem fewS_fn (s : St) : FnP Tryz.prog 7 [aSt s] (.bool (fewS s)) := by
 refine FnP.of Tryz.func7 rfl rfl (by simp) (by simp [AV.cells, aIn, aOut, aLn, aCl, aRp, Stk.aIt, Ssn.aSe, aSt]) (fun G hG => ?_)
 have hN : NoH G.length (.bool (fewS s)) := (by simp [AV.cells, aIn, aOut, aLn, aCl, aRp, Stk.aIt, Ssn.aSe, aSt])
 refine sr fun _ => ?_
 refine ρz ?_
 refine mz (sr fun _ => ?_)
 refine ρ4 U25 sz22 ?_
 refine ρ7 U22 ?_
 refine ρv U22 ?_
 refine ρ2 ?_
 refine mv ?_
 refine ρc U25 sz23 ?_
 refine ρ5 U23 ?_
 refine ρr cf22 (fun hg => Ssn.few_fn s.2) ?_
 refine ρ0 ?_
 refine mz ?_
 refine AWP.ret ?_
 refine ρi ?_
 rw [show fewS s = (decide ((((s.1.map Stk.aIt).length : Nat) : Int) ≤ 60) && Ssn.fewB s.2) from by unfold fewS; rw [List.length_map]; congr 1; exact decide_eq_decide.2 (by omega)]
theorem sameT_fn (a b : List ByteArray) (hl : a.length ≤ 9223372036854775807) : FnP Tryz.prog 21 [.sl (a.map AV.str), .sl (b.map AV.str)] (.bool (decide (a = b))) := by
 refine FnP.of Tryz.func21 rfl rfl (by simp) (by simp [AV.cells, aIn, aOut, aLn, aCl, aRp, Stk.aIt, Ssn.aSe, aSt]) (fun G hG => ?_)
 have hN : NoH G.length (.bool (decide (a = b))) := (by simp [AV.cells, aIn, aOut, aLn, aCl, aRp, Stk.aIt, Ssn.aSe, aSt])
 refine sr fun _ => ?_
 refine mz ?_
 refine AWP.seq (sr fun _ => ?_)
 refine mv ?_
 refine ρv U27 ?_
 refine mv ?_
 refine ρv U27 ?_
 refine ρ2 ?_
 refine ez ?_
 refine ρp (fun h0 => ?_) (fun h0 => ?_)
 · simp [-List.getD_eq_getElem?_getD] at h0
   refine sr fun _ => ?_
   refine mz ?_
   refine AWP.ret (thenA_r ?_)
   refine ρi ?_
   rw [decide_eq_false (fun e => absurd (congrArg List.length e) (by omega))]; rfl
 simp [-List.getD_eq_getElem?_getD] at h0
 refine AWP.skip (thenA_n (AWP.seq (sr fun _ => ?_)))
 refine mz ?_
 refine AWP.block ?_
 refine AWP.rounds (fun k => k ≤ a.length ∧ a.take k = b.take k) (fun k => [(0, .sl (a.map AV.str)), (1, .sl (b.map AV.str)), (5, .int .i64 (k : Int))]) (fun k => []) (fun k => a.length - k) 0 0 ⟨by omega, rfl⟩ (by repeat (first | exact .nil | refine .cons rfl ?_)) rfl (fun _ => rfl) (fun _ => ⟨by simp [AV.cells], by simp⟩) (fun k hI => ?_)
 obtain ⟨hk, hs⟩ := hI
 refine AWP.seq (sr fun _ => ?_)
 refine mv ?_
 refine mv ?_
 refine ρv U27 ?_
 refine ρ2 ?_
 refine ez ?_
 refine ρp (fun h1 => ?_) (fun h1 => ?_)
 · simp [-List.getD_eq_getElem?_getD] at h1
   refine AWP.skip (thenA_n ?_)
   refine AWP.seq (AWP.block (AWP.seq ?_))
   refine ρE mixed (fun _ => ?_)
   refine mv ?_
   refine mv ?_
   refine ρf U27 sz9 ?_
   refine ρ7 U9 ?_
   refine mv ?_
   refine mv ?_
   refine ρf U27 sz9 ?_
   refine ρ7 U9 ?_
   refine ARun.cmpS rfl rfl rfl rfl (ep rfl) (ep rfl) rfl optN ?_
   refine ⟨by kernel_rfl, _, _, rfl, hG, ?_⟩
   refine thenA_n ?_
   refine ρp (fun h2 => ?_) (fun h2 => ?_)
   · simp [-List.getD_eq_getElem?_getD] at h2
     refine sr fun _ => ?_
     refine mz ?_
     refine AWP.ret (blockA_r ?_)
     refine thenA_r (thenA_r ?_)
     refine blockA_r (thenA_r ?_)
     refine ρi ?_
     rw [decide_eq_false (ne_of_get (k := k) h2)]; rfl
   simp [-List.getD_eq_getElem?_getD] at h2
   refine AWP.skip (blockA_n (thenA_n ?_))
   refine AWP.region (fun _ => ?_)
   refine mv ?_
   refine ρa ?_
   refine ma ?_
   refine ⟨_, _, rfl, hG, ?_⟩
   refine thenA_n ⟨rfl, k + 1, _, ?_, ?_, rfl, ?_⟩
   · exact ⟨by omega, take_eq_go hs h1 (by omega) h2⟩
   · repeat (first | exact .nil | refine .cons rfl ?_)
   omega
 simp [-List.getD_eq_getElem?_getD] at h1
 refine AWP.exit ?_
 refine thenA_x ?_
 refine thenA_x ?_
 refine blockA_h ?_
 refine thenA_n (sr fun _ => ?_)
 refine mz ?_
 refine AWP.ret ?_
 refine ρi ?_
 rw [decide_eq_true (by rw [List.take_of_length_le h1, List.take_of_length_le (by omega)] at hs; exact hs)]; rfl


theorem str_snoc (l : List ByteArray) (x : ByteArray) : l.map AV.str ++ [AV.str x] = (l ++ [x]).map AV.str := by simp
theorem fold_fn (s : St) (l : List ByteArray) (hl : l.length ≤ 30) (hs : ∀ x, x ∈ l → x.size ≤ 2000) (h1s : s.1.length ≤ 60) (h2s : s.2.length ≤ 60) : FnP Tryz.prog 29 [aSt s, .sl (l.map AV.str)] (.tup [aSt (foldP s l).1, .sl ((foldP s l).2.map AV.str)]) := by
 have hfl := fold_len s l (fun x hx => by have := hs x hx; omega) h1s h2s
 have hxs : ∀ k, k < l.length → (l.getD k default).size ≤ 2000 := fun k hk => by rw [show l.getD k default = l[k] from by simp [List.getD, hk]]; exact hs _ (List.getElem_mem hk)
 refine FnP.of Tryz.func29 rfl rfl (by simp) (by simp [AV.cells, aIn, aOut, aLn, aCl, aRp, Stk.aIt, Ssn.aSe, aSt]) (fun G hG => ?_)
 have hN : NoH G.length (.tup [aSt (foldP s l).1, .sl ((foldP s l).2.map AV.str)]) := (by simp [AV.cells, aIn, aOut, aLn, aCl, aRp, Stk.aIt, Ssn.aSe, aSt])
 refine sr fun _ => ?_
 refine ARun.box (j := 0) hG rfl rfl rfl rfl rfl (ep rfl) rfl rfl optN ?_
 refine ρo (j := 1) zv25 ?_
 refine mz (sr fun _ => ?_)
 refine ARun.nilOwn (e := 9) (z := 1) (j := 2) hG rfl ⟨.inl rfl, rfl⟩ (fun _ => rfl) rfl rfl rfl optN ?_
 refine ez ?_
 refine AWP.seq (sr fun _ => ?_)
 refine mv ?_
 refine ρv U27 ?_
 refine mv ?_
 refine ez ?_
 refine AWP.block ?_
 refine AWP.rounds (fun st => st.1 ≤ l.length ∧ foldP s (l.take st.1) = (st.2.2.1, st.2.2.2)) (fun st => [(2, .box (G.length + 0) 0), (4, .box (G.length + 1) 0), (6, .own (G.length + 2) st.2.1), (11, .sl (l.map AV.str)), (12, .int .i64 ((l.map AV.str).length : Int)), (13, .int .i64 (st.1 : Int))]) (fun st => [.box [.sl ((st.2.2.1).1.map Stk.aIt), .sl ((st.2.2.1).2.map Ssn.aSe)], .box [.sl [], .sl []], .row st.2.1 9 1 (st.2.2.2.map AV.str)]) (fun st => l.length - st.1) 3 ((0, 0, s, []) : Nat × Nat × St × List ByteArray) ⟨Nat.zero_le _, rfl⟩ (by repeat (first | exact .nil | refine .cons rfl ?_)) rfl (fun _ => rfl) (fun _ => ⟨by simp [AV.cells], by simp [AO.conts, AV.cells, Stk.aIt, Ssn.aSe]; intro x a _ e; subst e; simp⟩) (fun st hI => ?_)
 obtain ⟨k, g, cur, out⟩ := st
 dsimp only at hI
 show AWP _ _ _ _ _ [(2, .box (G.length + 0) 0), (4, .box (G.length + 1) 0), (6, .own (G.length + 2) g), (11, .sl (l.map AV.str)), (12, .int .i64 ((l.map AV.str).length : Int)), (13, .int .i64 (k : Int))] _ [.box [.sl ((cur).1.map Stk.aIt), .sl ((cur).2.map Ssn.aSe)], .box [.sl [], .sl []], .row g 9 1 (out.map AV.str)]
 obtain ⟨hk, hcur⟩ := hI
 have hfk := hfl k hk
 rw [hcur] at hfk
 obtain ⟨⟨hc1, hc2⟩, hc3⟩ := hfk
 dsimp only at hc1 hc2 hc3
 refine sr fun _ => ?_
 refine ρ2 ?_
 refine ez ?_
 refine AWP.seq ?_
 refine ρp (fun h0 => ?_) (fun h0 => ?_)
 · try simp [-List.getD_eq_getElem?_getD] at h0
   refine AWP.skip (thenA_n ?_)
   refine AWP.seq (AWP.block (sr fun _ => ?_))
   refine ρf U27 sz9 ?_
   refine ρ7 U9 ?_
   refine mz (sr fun _ => ?_)
   refine ρn U25 sz25 ?_
   refine mv ?_
   refine ρk cf38 ?_ (hF := fun hg => apply_fn cur (l.getD k default) (hxs k (by omega)) hc1 hc2)
   refine mv ?_
   refine ρ9 ?_
   refine ρ9 ?_
   refine ρo (j := 3) zv25 ?_
   refine ρ1 sz25 ?_
   refine mz ?_
   refine AWP.frzBox 9 hG rfl rfl rfl ?_
   refine ρE mixed (fun _ => ?_)
   refine ρl U25 sz25 ?_
   refine mv ?_
   refine mv ?_
   refine ρy U27 sz9 zv9 ?_
   refine ARun.appendL hG rfl rfl rfl rfl U27 ti9 rfl (by decide) (ep rfl) (ep rfl) rfl rfl (by simp [maxLen]; omega) (by simp; omega) (str_snoc out (applyP cur (l.getD k default)).2) optN rfl ?_
   refine ρ1 sz25 ?_
   refine ma ?_
   refine ⟨by kernel_rfl, _, _, rfl, hG, ?_⟩
   refine blockA_n (thenA_n ?_)
   refine AWP.region (fun _ => ?_)
   refine ρa ?_
   refine mv ?_
   refine ⟨_, _, rfl, hG, ?_⟩
   refine thenA_n ⟨rfl, (k + 1, g + 1, (applyP cur (l.getD k default)).1, out ++ [(applyP cur (l.getD k default)).2]), _, ?_, ?_, rfl, ?_⟩
   · refine ⟨by dsimp only; omega, ?_⟩
     rw [fold_at s l k (by omega), hcur]; rfl
   · repeat (first | exact .nil | refine .cons rfl ?_)
   dsimp only; omega
 simp at h0
 obtain rfl : k = l.length := by omega
 rw [List.take_length] at hcur
 refine AWP.exit ?_
 refine thenA_x ?_
 refine thenA_x ?_
 refine blockA_h ?_
 refine thenA_n (sr fun _ => ?_)
 refine ρn U25 sz25 ?_
 refine mv ?_
 refine ρ1 sz25 ?_
 refine mz ?_
 refine AWP.frzOwn 5 hG rfl rfl (by decide) (by simp [maxLen]; omega) rfl ?_
 refine AWP.ret ?_
 refine ρj (rs := [.cell 4 25, .tmp 5]) (.cons (.cellA rfl ((hG.at _ _).trans rfl) U25 rfl sz25 rfl rfl) (.cons (.tmp rfl) .nil)) ?_
 rw [hcur]; rfl
end Go.Proofs.YtcndnllmlhhjiaaGreatDoor
namespace Go.Proofs.YtcndnllmlhhjiaaGreatDoor
open Go.RowKit
def mset (s : ByteArray) (v : Value) : List (ByteArray × Value) → List (ByteArray × Value)
 | [] => [(s, v)]
 | (k, u) :: es => bif s == k then (s, v) :: es else (k, u) :: mset s v es
theorem ba_beq (s k : ByteArray) : (s == k) = decide (s = k) := by
 cases s with | mk a => cases k with | mk b =>
 have : ((ByteArray.mk a) == (ByteArray.mk b)) = (a == b) := rfl
 rw [this]
 by_cases h : a = b
 · subst h; simp
 simp [h]
instance : ReflBEq ByteArray := ⟨by intro a; rw [ba_beq]; simp⟩
instance : LawfulBEq ByteArray := ⟨by intro a b h; rw [ba_beq] at h; exact of_decide_eq_true h⟩
theorem find_now (s : ByteArray) (v : Value) : ∀ (ents : List MapEntry) (es : List (ByteArray × Value)) (i : Nat), ents.map (fun e => (e.key, e.val)) = es.map (fun p => (Value.string p.1, p.2)) →
   (es.lookup s = none ∧ Instr.findNow .string (.string s) ents i = some none ∧ mset s v es = es ++ [(s, v)]) ∨
   ∃ j e, ents[j]? = some e ∧ e.key = .string s ∧ es.lookup s = some e.val ∧ Instr.findNow .string (.string s) ents i = some (some (i + j, e.val)) ∧
     (ents.set j { e with val := v }).map (fun e => (e.key, e.val)) = (mset s v es).map (fun p => (Value.string p.1, p.2)) := by
 intro ents
 induction ents with
 | nil => intro es i h; cases es with | nil => exact .inl ⟨rfl, rfl, rfl⟩ | cons p es => cases h
 | cons e ents ih =>
   intro es i h
   cases es with
   | nil => cases h
   | cons p es =>
     obtain ⟨k, u⟩ := p
     simp only [List.map_cons, List.cons.injEq, Prod.mk.injEq] at h
     obtain ⟨⟨hk, hu⟩, h2⟩ := h
     have hs : Instr.sameNow .string (.string s) e.key = some (s == k) := by rw [hk]; rfl
     cases hb : s == k with
     | true =>
       have hsk : s = k := by rw [ba_beq] at hb; exact of_decide_eq_true hb
       refine .inr ⟨0, e, rfl, by rw [hk, hsk], by rw [List.lookup_cons, hb]; exact congrArg some hu.symm, ?_, ?_⟩
       · rw [Instr.findNow, hs, hb]; rfl
       rw [mset, hb]; simp [hk, hsk, h2]
     | false =>
       have e1 : Instr.findNow .string (.string s) (e :: ents) i = Instr.findNow .string (.string s) ents (i + 1) := by rw [Instr.findNow, hs, hb]
       rcases ih es (i + 1) h2 with ⟨a, b, c⟩ | ⟨j, e', a, b, c, d, f⟩
       · refine .inl ⟨by rw [List.lookup_cons, hb]; exact a, e1.trans b, ?_⟩
         rw [mset, hb, c]; rfl
       refine .inr ⟨j + 1, e', a, b, by rw [List.lookup_cons, hb]; exact c, by rw [e1, d]; congr 3; omega, ?_⟩
       rw [mset, hb]
       simp only [List.set_cons_succ, List.map_cons, f, cond_false, hk, hu]
theorem run_checkS {P : Program} {k : TypeId} (hk : P.underlying k = some .string) (e : Bool) (s : ByteArray) (w : World) : (Instr.checkKey e 10000 k (.string s)).run P w = .ok () w := by
 unfold Instr.checkKey; simp [run_underlying hk]
theorem run_findS {P : Program} {k : TypeId} (hk : P.underlying k = some .string) {s : ByteArray} {ents : List MapEntry} {r : Option (Nat × Value)} (h : Instr.findNow .string (.string s) ents 0 = some r) (w : World) : (Instr.findKey k (.string s) ents).run P w = .ok r w := by
 simp [Instr.findKey, run_underlying hk, h]
def lookV (ok : Bool) (z : Value) (r : Option Value) : AV := bif ok then .tup [cAV (r.getD z), .bool r.isSome] else cAV (r.getD z)
theorem lookV_rep (β : List Hd) (W : World) (ok : Bool) (z : Value) (r : Option Value) : VRep β W (if ok then .tuple #[r.getD z, .bool r.isSome] else r.getD z) (lookV ok z r) := by
 cases ok
 · exact cAV_rep _ _ _
 refine .tup _ _ rfl fun j u x h1 h2 => ?_
 match j with
 | 0 => cases h1; cases h2; exact cAV_rep _ _ _
 | 1 => cases h1; cases h2; exact .bool _
 | j + 2 => simp at h1
theorem lookI (m : List (ByteArray × Int)) (s : ByteArray) : lookV true (.int .i64 0) ((m.map fun p => (p.1, Value.int .i64 p.2)).lookup s) = .tup [.int .i64 ((m.lookup s).getD 0), .bool (m.lookup s).isSome] := by
 have : (m.map fun p => (p.1, Value.int .i64 p.2)).lookup s = (m.lookup s).map (Value.int .i64) := by
   induction m with
   | nil => rfl
   | cons p m ih => obtain ⟨k, v⟩ := p; rw [List.map_cons, List.lookup_cons, List.lookup_cons]; cases s == k <;> simp [ih]
 rw [this]; cases m.lookup s <;> rfl
theorem lookI1 (m : List (ByteArray × Int)) (s : ByteArray) : lookV false (.int .i64 0) ((m.map fun p => (p.1, Value.int .i64 p.2)).lookup s) = .int .i64 ((m.lookup s).getD 0) := by
 have : (m.map fun p => (p.1, Value.int .i64 p.2)).lookup s = (m.lookup s).map (Value.int .i64) := by
   induction m with
   | nil => rfl
   | cons p m ih => obtain ⟨k, v⟩ := p; rw [List.map_cons, List.lookup_cons, List.lookup_cons]; cases s == k <;> simp [ih]
 rw [this]; cases m.lookup s <;> rfl
theorem lookB (m : List ByteArray) (s : ByteArray) : lookV false (.bool false) ((m.map fun p => (p, Value.bool true)).lookup s) = .bool (m.contains s) := by
 have : (m.map fun p => (p, Value.bool true)).lookup s = bif m.contains s then some (.bool true) else none := by
   induction m with
   | nil => rfl
   | cons k m ih => rw [List.map_cons, List.lookup_cons, List.contains_cons]; cases s == k <;> simp [ih]
 rw [this]; cases m.contains s <;> rfl
def plainVal : AV → Option Value
 | .int k n => some (.int k n)
 | .bool b => some (.bool b)
 | _ => none
theorem plainVal_rep {X : AV} {v u : Value} (h : plainVal X = some v) {β : List Hd} {W : World} (hr : VRep β W u X) : u = v := by
 cases hr <;> simp [plainVal] at h <;> exact h
theorem VRep.mh_at {β : List Hd} {H : List AO} {W : World} {v : Value} {i : Nat} {es : List (ByteArray × Value)} (h : VRep β W v (.mh i)) (hH : HRel β H W) (hi : H[i]? = some (.map es)) : ∃ b, β[i]? = some (.map b) ∧ v = .map (some b) ∧ MapAt W b es := by
 cases h with
 | mh b0 _ hi2 h =>
   have hg : β[i]? = some β[i] := List.getElem?_eq_getElem hi2
   have ho := hH.ob i _ _ hi hg
   cases hb : β[i] with
   | box b => rw [hb] at ho; exact ho.elim
   | row v g => rw [hb] at ho; exact ho.elim
   | dead => rw [hb] at ho; exact ho.elim
   | guard b => rw [hb] at ho; exact ho.elim
   | bld b v => rw [hb] at ho; exact ho.elim
   | map b => rw [hb] at ho hg; exact ⟨b, hg, by rw [h _ b hg rfl], ho⟩
theorem run_lookS {P : Program} {t k e : TypeId} (hu : P.underlying t = some (.map k e)) (hk : P.underlying k = some .string) {z : Value} (hz : Zv P e z) {W : World} {b : Nat} {es : List (ByteArray × Value)} (hm : MapAt W b es) (s : ByteArray) (ok : Bool) :
   (Instr.lookup t (.map (some b)) (.string s) ok).run P W = .ok (if ok then .tuple #[(es.lookup s).getD z, .bool (es.lookup s).isSome] else (es.lookup s).getD z) W := by
 obtain ⟨ents, clock, h1, h2⟩ := hm
 rcases find_now s undef ents.toList es 0 h2 with ⟨a, c, _⟩ | ⟨j, e', _, _, a, c, _⟩
 · rw [a]
   simp [Instr.lookup, run_underlying hu, MapKept.run_getObj_map h1, run_checkS hk, run_findS hk c, hz.run]
 rw [a]
 simp [Instr.lookup, run_underlying hu, MapKept.run_getObj_map h1, run_checkS hk, run_findS hk c]
section
variable {P : Program} {ops : Array Oper} {n m : Nat} {QQ : List Kd → Sl → List AO → Prop} {l : List Oper} {ks : List Kd} {σ : Sl} {G L H : List AO} {o : Oper} {gd : Bool}
theorem ARun.makeMap {t : TypeId} {j : Nat} {Y : AV} {d : Option Tmp} (hm : GOK m G) (hj : L.length = j) (ho : o.op = .makeMap t none) (hd : o.dst = d) (hn : dstLt n d = true) (hg : gdS ops σ o.guard = some true)
   (hY : optA o.guard true (.mh (m + j)) = Y)
   (hr : ARun P ops n QQ l (ks ++ [.new]) (putS σ d Y) (G ++ (L ++ [.map []]))) : ARun P ops n QQ (o :: l) ks σ (G ++ L) := by
 refine ARun.new (E := [.map []]) hd hn hg hY (fun H0 hl0 a W β hHr hl => ?_) (by rw [List.append_assoc]; exact hr)
 have hb : Below W.heap.size W (W.alloc (.map #[] 0)) := (Below.refl _ _).alloc (Nat.le_refl _) _
 have hsn := hHr.snoc (w' := W.alloc (.map #[] 0)) hb (x := .map W.heap.size) (o := .map []) ⟨#[], 0, heap_alloc_new W _, rfl⟩ (fun b hb => by simp [Hd.blks] at hb; omega)
 have hlen : β.length = m + j := by rw [hHr.len, hl0, List.length_append, hm.1, hj]
 refine ⟨.map (some W.heap.size), _, β ++ [.map W.heap.size], ?_, hsn.1, hsn.2, .mh _ _ (by rw [List.length_append, hlen]; simp) fun x b hb hcb => ?_⟩
 · simp [execOp, ho, Instr.makeMap, newObj, Sem.run]
 rw [List.getElem?_append_right (by omega), hlen, Nat.sub_self] at hb
 cases hb; cases hcb; rfl
theorem ARun.lookMp {x y : Operand} {t k e : TypeId} {ok : Bool} {es : List (ByteArray × Value)} {s : ByteArray} {z : Value} {X Y : AV} {d : Option Tmp} (ho : o.op = .lookup t x y ok) (hd : o.dst = d) (hn : dstLt n d = true) (hG : gdS ops σ o.guard = some gd)
   (hu : P.underlying t = some (.map k e)) (hk : P.underlying k = some .string) (hz : Zv P e z)
   (hx : Ev gd σ x (.mp es)) (hy : Ev gd σ y (.str s)) (hX : lookV ok z (es.lookup s) = X) (hY : optA o.guard gd X = Y)
   (hr : ARun P ops n QQ l (ks ++ [.pure]) (putS σ d Y) H) : ARun P ops n QQ (o :: l) ks σ H := by
 subst hX
 refine ARun.same hd hn hG hY (fun hg a W β hl => ⟨_, ?_, lookV_rep _ _ _ _ _⟩) hr
 have h1 := hx.rep hg hl (by simp [ho, Op.operands])
 have h2 := hy.rep hg hl (by simp [ho, Op.operands])
 generalize hv1 : a.eval x = v1 at h1
 generalize hv2 : a.eval y = v2 at h2
 cases h2
 cases h1 with
 | mp b _ hb hS hm => simp [execOp, ho, hv1, hv2, run_lookS hu hk hz hm s ok]
theorem ARun.lookMh {x y : Operand} {t k e : TypeId} {ok : Bool} {i : Nat} {es : List (ByteArray × Value)} {s : ByteArray} {z : Value} {X Y : AV} {d : Option Tmp} (ho : o.op = .lookup t x y ok) (hd : o.dst = d) (hn : dstLt n d = true) (hG : gdS ops σ o.guard = some gd)
   (hu : P.underlying t = some (.map k e)) (hk : P.underlying k = some .string) (hz : Zv P e z)
   (hx : Ev gd σ x (.mh i)) (hH : H[i]? = some (.map es)) (hy : Ev gd σ y (.str s)) (hX : lookV ok z (es.lookup s) = X) (hY : optA o.guard gd X = Y)
   (hr : ARun P ops n QQ l (ks ++ [.rd]) (putS σ d Y) H) : ARun P ops n QQ (o :: l) ks σ H := by
 subst hX
 refine ARun.rd hd hn hG hY (fun hg E a W β hHr hl => ⟨_, ?_, lookV_rep _ _ _ _ _⟩) hr
 obtain ⟨b, _, h1, hm⟩ := (hx.rep hg hl (by simp [ho, Op.operands])).mh_at hHr (at_ext hH E)
 have h2 := hy.rep hg hl (by simp [ho, Op.operands])
 generalize hv2 : a.eval y = v2 at h2
 cases h2
 simp [execOp, ho, h1, hv2, run_lookS hu hk hz hm s ok]
theorem ARun.mapSet {x y v : Operand} {t k e : TypeId} {j : Nat} {es : List (ByteArray × Value)} {s : ByteArray} {V : AV} {u : Value} {L' : List AO} (hm : GOK m G) (ho : o.op = .mapUpdate t x y v) (hd : o.dst = none) (hg : gdS ops σ o.guard = some true)
   (hu : P.underlying t = some (.map k e)) (hk : P.underlying k = some .string)
   (hx : Ev true σ x (.mh (m + j))) (hH : L[j]? = some (.map es)) (hy : Ev true σ y (.str s)) (hv : Ev true σ v V) (hV : plainVal V = some u) {es' : List (ByteArray × Value)} (he : mset s u es = es') (hL : L.set j (.map es') = L')
   (hr : ARun P ops n QQ l (ks ++ [.write]) σ (G ++ L')) : ARun P ops n QQ (o :: l) ks σ (G ++ L) := by
 subst he
 refine ⟨.write, .raw undef, G ++ L', by rw [hd]; rfl, OpStep.skip (gd := true) hg rfl (fun a W β hHr hl => ?_), by rw [hd]; exact hr⟩
 have hiH : (G ++ L)[m + j]? = some (.map es) := by rw [hm.at]; exact hH
 obtain ⟨b, hβ, h1, ents, clock, hhp, hes⟩ := (hx.rep rfl hl (by simp [ho, Op.operands])).mh_at hHr hiH
 have h2 := hy.rep rfl hl (by simp [ho, Op.operands])
 have h3 := plainVal_rep hV (hv.rep rfl hl (by simp [ho, Op.operands]))
 generalize hv2 : a.eval y = v2 at h2
 cases h2
 have hlt : b < W.heap.size := (Array.getElem?_eq_some_iff.1 hhp).1
 have key : ∀ (ents' : Array MapEntry) (c' : Nat), ents'.toList.map (fun e => (e.key, e.val)) = (mset s u es).map (fun p => (Value.string p.1, p.2)) →
     Ext β W β (ChangeMaps.setBlock W b (.map ents' c')) ∧ HRel β (G ++ L') (ChangeMaps.setBlock W b (.map ents' c')) := by
   intro ents' c' he
   rw [← hL, ← hm.set]
   refine hHr.set hβ rfl (by simp [ChangeMaps.setBlock]) rfl rfl rfl (fun q hq => ?_) (fun _ => ⟨ents', c', ?_, he⟩)
   · simp [ChangeMaps.setBlock, Array.getElem?_setIfInBounds, Ne.symm hq]
   simp [ChangeMaps.setBlock, Array.getElem?_setIfInBounds, hlt]
 rcases find_now s u ents.toList es 0 hes with ⟨_, c, d⟩ | ⟨q, e', a1, a2, _, c, d⟩
 · have hk2 := key (ents.push { key := .string s, val := u, born := clock }) (clock + 1) (by rw [d]; simp [hes])
   refine ⟨_, β, ?_, hk2.1, hk2.2⟩
   simp [execOp, ho, h1, h3, hv2, Instr.mapUpdate, run_underlying hu, MapKept.run_getObj_map hhp, run_checkS hk, run_findS hk c, MapKept.run_setObj_map _ hhp, ChangeMaps.setBlock, Result.andThen]
 have hq : ents[q]? = some e' := by simpa using a1
 have hmod : (ents.modify (0 + q) fun e => { e with key := .string s, val := u }).toList = ents.toList.set q { e' with val := u } := by
   rw [Nat.zero_add, Array.toList_modify, ChangeMaps.modify_eq_set _ _ _ _ a1, ← a2]
 have hk2 := key (ents.modify (0 + q) fun e => { e with key := .string s, val := u }) clock (by rw [hmod]; exact d)
 refine ⟨_, β, ?_, hk2.1, hk2.2⟩
 have hss : (s == s) = true := by rw [ba_beq]; simp
 simp [execOp, ho, h1, h3, hv2, Instr.mapUpdate, run_underlying hu, MapKept.run_getObj_map hhp, run_checkS hk, run_findS hk c, hq, a2, Instr.keyThatStays, Instr.sameBits, hss, MapKept.run_setObj_map _ hhp, ChangeMaps.setBlock, Result.andThen]
end
theorem AWP.frzMap {P : Program} {n m : Nat} {c : Code} {Q : QA} {σ : Sl} {G L : List AO} {j : Nat} {es : List (ByteArray × Value)} {L' : List AO} (t : Nat) (hm : GOK m G) (ht : look σ t = some (.mh (m + j))) (hj : L[j]? = some (.map es)) (hL : L.set j .dead = L')
   (h : AWP P n m c Q ((t, .mp es) :: σ) G L') : AWP P n m c Q σ G L := by
 intro D a W β hmG hn hd hHr hs0
 have hiH : (G ++ L)[m + j]? = some (.map es) := by rw [hm.at]; exact hj
 obtain ⟨u, ku, hu⟩ := hs0 t _ ht
 obtain ⟨b, hβ, hub, hmp⟩ := hu.mh_at hHr hiH
 have hbl : b < W.heap.size := hHr.lt hβ (List.mem_singleton.2 rfl)
 obtain ⟨hext, hH2⟩ := hHr.change hβ (x' := .dead) (o := .dead) (w' := W) trivial (fun _ e => by cases e) rfl rfl rfl (Nat.le_refl _) (fun _ _ _ => rfl) (fun b hb => by cases hb) (fun _ => trivial)
 rw [hm.set, hL] at hH2
 have hpe : VRep (β.set (m + j) .dead) W u (.mp es) := by
   rw [hub]
   refine .mp b es hbl (fun x hx e5 => ?_) hmp
   obtain ⟨k, hk, rfl⟩ := List.mem_iff_getElem.1 hx
   have hk2 : (β.set (m + j) .dead)[k]? = some ((β.set (m + j) .dead)[k]) := List.getElem?_eq_getElem hk
   by_cases e : m + j = k
   · subst e; rw [List.getElem_set_self] at e5; cases e5
   rw [List.getElem?_set_ne e] at hk2
   exact hHr.ap _ _ _ _ b e hβ hk2 (List.mem_singleton.2 rfl) e5
 refine Code.wp_mono (fun e a' W' hp => hp.ext hext) (h D a W _ hmG hn hd hH2 fun t' X hX => ?_)
 change (bif Nat.beq t t' then some (AV.mp es) else look σ t') = some X at hX
 cases hb : Nat.beq t t' with
 | true => rw [hb] at hX; obtain rfl := Nat.eq_of_beq_eq_true hb; cases hX; exact ⟨u, ku, hpe⟩
 | false =>
   rw [hb] at hX
   obtain ⟨u', k1, k2⟩ := hs0 t' X hX
   exact ⟨u', k1, k2.ext hext⟩
theorem AWP.frzMapIn {P : Program} {n m : Nat} {c : Code} {Q : QA} {σ : Sl} {G L : List AO} {j q p : Nat} {es : List (ByteArray × Value)} {cs : List AV} {L' : List AO} (hm : GOK m G) (hj : L[j]? = some (.map es)) (hq : L[q]? = some (.box cs)) (hp : cs[p]? = some (.mh (m + j))) (hL : (L.set j .dead).set q (.box (cs.set p (.mp es))) = L')
   (h : AWP P n m c Q σ G L') : AWP P n m c Q σ G L := by
 intro D a W β hmG hn hd hHr hs0
 have hjq : j ≠ q := by intro e; subst e; rw [hj] at hq; cases hq
 have hiH : (G ++ L)[m + j]? = some (.map es) := by rw [hm.at]; exact hj
 have hiq : (G ++ L)[m + q]? = some (.box cs) := by rw [hm.at]; exact hq
 obtain ⟨b, hβ⟩ : ∃ b, β[m + j]? = some (.map b) := by
   have hlt : m + j < β.length := by rw [hHr.len]; exact (List.getElem?_eq_some_iff.1 hiH).1
   have ho := hHr.ob _ _ _ hiH (List.getElem?_eq_getElem hlt)
   cases hb : β[m + j] with
   | box b => rw [hb] at ho; exact ho.elim
   | dead => rw [hb] at ho; exact ho.elim
   | guard b => rw [hb] at ho; exact ho.elim
   | bld b v => rw [hb] at ho; exact ho.elim
   | row v g => rw [hb] at ho; exact ho.elim
   | map b => exact ⟨b, by rw [List.getElem?_eq_getElem hlt, hb]⟩
 have hbl : b < W.heap.size := hHr.lt hβ (List.mem_singleton.2 rfl)
 obtain ⟨hext, hH1⟩ := hHr.change hβ (x' := .dead) (o := .dead) (w' := W) trivial (fun _ e => by cases e) rfl rfl rfl (Nat.le_refl _) (fun _ _ _ => rfl) (fun b hb => by cases hb) (fun _ => trivial)
 have hrow : ∀ u, VRep β W u (.mh (m + j)) → VRep (β.set (m + j) .dead) W u (.mp es) := by
   intro u hu
   obtain ⟨b', hβ', hub, hmp⟩ := hu.mh_at hHr hiH
   rw [hβ] at hβ'; cases hβ'
   rw [hub]
   refine .mp b es hbl (fun x hx e5 => ?_) hmp
   obtain ⟨k, hk, rfl⟩ := List.mem_iff_getElem.1 hx
   have hk2 : (β.set (m + j) .dead)[k]? = some ((β.set (m + j) .dead)[k]) := List.getElem?_eq_getElem hk
   by_cases e : m + j = k
   · subst e; rw [List.getElem_set_self] at e5; cases e5
   rw [List.getElem?_set_ne e] at hk2
   exact hHr.ap _ _ _ _ b e hβ hk2 (List.mem_singleton.2 rfl) e5
 have hH2 : HRel (β.set (m + j) .dead) (G ++ L') W := by
   have e1 : G ++ L' = ((G ++ L).set (m + j) .dead).set (m + q) (.box (cs.set p (.mp es))) := by rw [hm.set, hm.set, hL]
   rw [e1]
   refine ⟨hH1.gl, by rw [hH1.len]; simp, fun i o x h1 h2 => ?_, hH1.ap⟩
   by_cases e : m + q = i
   · subst e
     have hltq : m + q < ((G ++ L).set (m + j) .dead).length := by rw [List.length_set]; exact (List.getElem?_eq_some_iff.1 hiq).1
     rw [List.getElem?_set_self hltq] at h1
     cases h1
     have h2' : β[m + q]? = some x := by rw [List.getElem?_set_ne (by omega)] at h2; exact h2
     have hrep : ∀ (arr : Array Value), arr.size = cs.length → (∀ (k : Nat) (u : Value) (y : AV), arr[k]? = some u → cs[k]? = some y → VRep β W u y) → ∀ (k : Nat) (u : Value) (y : AV), arr[k]? = some u → (cs.set p (.mp es))[k]? = some y → VRep (β.set (m + j) .dead) W u y := by
       intro arr hsz hr k u y h3 h4
       by_cases e : p = k
       · subst e
         rw [List.getElem?_set_self (List.getElem?_eq_some_iff.1 hp).1] at h4
         cases h4
         exact hrow u (hr _ u _ h3 hp)
       rw [List.getElem?_set_ne e] at h4
       exact (hr k u y h3 h4).ext hext
     have ho0 := hHr.ob _ _ _ hiq h2'
     cases x with
     | box b =>
       obtain ⟨arr, T, k1, k2, k3, k4⟩ := ho0
       refine ⟨arr, T, k1, by simpa using k2, hrep arr k2 k3, ?_⟩
       rw [List.all_eq_true] at k4 ⊢
       intro y hy
       rcases List.mem_or_eq_of_mem_set hy with hy | rfl
       · exact k4 y hy
       rfl
     | bld b v =>
       obtain ⟨arr, T, k1, k2, k3, e', s', q1, q2, q3⟩ := ho0
       refine ⟨arr, T, k1, by simpa using k2, hrep arr k2 k3, e', s', ?_, ?_, q3⟩
       · rw [List.getElem?_set_ne]; exact q1
         intro e; subst e; rw [hp] at q1; cases q1
       rw [List.getElem?_set_ne]; exact q2
       intro e; subst e; rw [hp] at q2; cases q2
     | row v g => exact ho0.elim
     | dead => exact ho0.elim
     | guard bs => exact ho0.elim
     | map b => exact ho0.elim
   rw [List.getElem?_set_ne e] at h1
   exact hH1.ob i o x h1 h2
 refine Code.wp_mono (fun e a' W' hp => hp.ext hext) (h D a W _ hmG hn hd hH2 fun t X ht => ?_)
 obtain ⟨u, k1, k2⟩ := hs0 t X ht
 exact ⟨u, k1, k2.ext hext⟩
end Go.Proofs.YtcndnllmlhhjiaaGreatDoor
namespace Go.Proofs.YtcndnllmlhhjiaaGreatDoor
open NumP
def firstP : List ByteArray → ByteArray → Int
 | [], _ => -1
 | x :: l, p => if x = p then 0 else if 0 ≤ firstP l p then firstP l p + 1 else -1
theorem first_ge (l : List ByteArray) (p : ByteArray) : -1 ≤ firstP l p ∧ firstP l p < l.length := by
 induction l with
 | nil => exact ⟨by simp [firstP], by simp [firstP]⟩
 | cons x l ih =>
   rw [firstP, List.length_cons]
   split
   · omega
   · split <;> omega
theorem first_at {l : List ByteArray} {p : ByteArray} : ∀ {i : Nat}, i < l.length → l.getD i default = p → (∀ j, j < i → l.getD j default ≠ p) → firstP l p = i := by
 induction l with
 | nil => intro i h; simp at h
 | cons x l ih =>
   intro i h1 h2 h3
   rw [firstP]
   cases i with
   | zero => rw [if_pos (by simpa using h2)]; rfl
   | succ i =>
     rw [if_neg (by simpa using h3 0 (by omega))]
     have := ih (i := i) (by simpa using h1) (by simpa using h2) (fun j hj => by simpa using h3 (j + 1) (by omega))
     rw [this, if_pos (by omega)]; omega
theorem first_no {l : List ByteArray} {p : ByteArray} (h : ∀ j, j < l.length → l.getD j default ≠ p) : firstP l p = -1 := by
 induction l with
 | nil => rfl
 | cons x l ih =>
   rw [firstP, if_neg (by simpa using h 0 (by simp)), ih (fun j hj => by simpa using h (j + 1) (by simpa using hj))]
   simp
theorem first_mem {l : List ByteArray} {p : ByteArray} : 0 ≤ firstP l p ↔ p ∈ l := by
 induction l with
 | nil => simp [firstP]
 | cons x l ih =>
   rw [firstP, List.mem_cons]
   by_cases h : x = p
   · rw [if_pos h]; simp [h]
   · rw [if_neg h, ← ih]
     have h' : ¬ p = x := fun e => h e.symm
     simp only [h', false_or]
     split <;> omega
theorem first_snoc (l : List ByteArray) (x p : ByteArray) : firstP (l ++ [x]) p = if 0 ≤ firstP l p then firstP l p else if x = p then (l.length : Int) else -1 := by
 induction l with
 | nil =>
   show (if x = p then (0 : Int) else if 0 ≤ (-1 : Int) then -1 + 1 else -1) = _
   simp [firstP]
 | cons y l ih =>
   rw [List.cons_append, firstP, firstP, ih]
   by_cases h : y = p
   · simp [h]
   · simp only [h, if_false, List.length_cons]
     by_cases h0 : 0 ≤ firstP l p
     · simp only [h0, if_true]; split <;> omega
     · simp only [h0, if_false]
       by_cases hx : x = p
       · simp only [hx, if_true]; rw [if_pos (by omega)]; simp
       · simp [hx]
theorem look_snoc (m : List (ByteArray × Int)) (k : ByteArray) (v : Int) (p : ByteArray) : (m ++ [(k, v)]).lookup p = if (m.lookup p).isSome = true then m.lookup p else if k = p then some v else none := by
 induction m with
 | nil =>
   rw [List.nil_append, List.lookup_cons, ba_beq]
   by_cases h : p = k
   · subst h; simp
   · have h' : ¬ k = p := fun e => h e.symm
     simp [h, h']
 | cons q m ih =>
   obtain ⟨a, b⟩ := q
   rw [List.cons_append, List.lookup_cons, List.lookup_cons]
   cases p == a
   · exact ih
   · rfl
def placesP (l : List ByteArray) : Nat → List (ByteArray × Int)
 | 0 => []
 | n + 1 => if ((placesP l n).lookup (l.getD n default)).isSome = true then placesP l n else placesP l n ++ [(l.getD n default, (n : Int))]
theorem places_look (l : List ByteArray) : ∀ n, n ≤ l.length → ∀ p, (placesP l n).lookup p = if 0 ≤ firstP (l.take n) p then some (firstP (l.take n) p) else none := by
 intro n
 induction n with
 | zero => intro _ p; rfl
 | succ n ih =>
   intro hn p
   have hg : l.getD n default = l[n] := by rw [List.getD, List.getElem?_eq_getElem (by omega)]; rfl
   have i1 := ih (by omega) l[n]
   have i2 := ih (by omega) p
   have hl : (l.take n).length = n := by rw [List.length_take]; omega
   rw [List.take_succ_eq_append_getElem (by omega), first_snoc, placesP, hg, hl]
   by_cases h1 : 0 ≤ firstP (l.take n) l[n]
   · rw [if_pos h1] at i1
     rw [i1, if_pos (show (some (firstP (l.take n) l[n])).isSome = true from rfl), i2]
     by_cases h2 : 0 ≤ firstP (l.take n) p
     · simp [h2]
     · have : ¬ l[n] = p := fun e => h2 (e ▸ h1)
       simp [h2, this]
   · rw [if_neg h1] at i1
     rw [i1, if_neg (by simp), look_snoc, i2]
     by_cases h2 : 0 ≤ firstP (l.take n) p
     · simp [h2]
     · by_cases h3 : l[n] = p
       · simp [h2, h3]
       · simp [h2, h3]
theorem places_all (l : List ByteArray) (p : ByteArray) : (placesP l l.length).lookup p = if 0 ≤ firstP l p then some (firstP l p) else none := by
 have := places_look l l.length (Nat.le_refl _) p
 rwa [List.take_length] at this
def inP (order : List ByteArray) (p : ByteArray) : Bool := decide (0 ≤ firstP order p)
theorem places_in (l : List ByteArray) (p : ByteArray) : ((placesP l l.length).lookup p).isSome = inP l p := by
 rw [places_all, inP]; by_cases h : 0 ≤ firstP l p <;> simp [h]
theorem places_at (l : List ByteArray) (p : ByteArray) (h : inP l p = true) : ((placesP l l.length).lookup p).getD 0 = firstP l p := by
 rw [places_all, if_pos (by simpa [inP] using h)]; rfl
def paysP (l : List Co) : Nat → List ByteArray
 | 0 => []
 | n + 1 => if (paysP l n).contains (l.getD n default).payload = true then paysP l n else paysP l n ++ [(l.getD n default).payload]
theorem pays_mem (l : List Co) : ∀ n, n ≤ l.length → ∀ p, (paysP l n).contains p = (l.take n).any fun o => decide (o.payload = p) := by
 intro n
 induction n with
 | zero => intro _ p; rfl
 | succ n ih =>
   intro hn p
   have hg : l.getD n default = l[n] := by rw [List.getD, List.getElem?_eq_getElem (by omega)]; rfl
   rw [List.take_succ_eq_append_getElem (by omega), List.any_append, ← ih (by omega), paysP, hg]
   have hc : ∀ (m : List ByteArray) (q p : ByteArray), (m ++ [q]).contains p = (m.contains p || decide (q = p)) := by
     intro m q p
     rw [Bool.eq_iff_iff]
     simp only [List.contains_iff_mem, ba_beq, List.contains_eq_any_beq, List.any_eq_true, decide_eq_true_eq, List.mem_append, List.mem_singleton, Bool.or_eq_true]
     constructor
     · rintro ⟨x, h1 | h1, rfl⟩
       · exact .inl ⟨_, h1, rfl⟩
       · exact .inr h1.symm
     · rintro (⟨x, h1, rfl⟩ | rfl)
       · exact ⟨_, .inl h1, rfl⟩
       · exact ⟨_, .inr rfl, rfl⟩
   by_cases h : (paysP l n).contains l[n].payload = true
   · rw [if_pos h]
     by_cases e : l[n].payload = p
     · rw [← e, h]; simp
     · simp [e]
   · rw [if_neg h, hc]; simp
theorem pays_all (l : List Co) (p : ByteArray) : (paysP l l.length).contains p = l.any fun o => decide (o.payload = p) := by
 have := pays_mem l l.length (Nat.le_refl _) p
 rwa [List.take_length] at this
def knownP (l : List Co) (order : List ByteArray) : Bool := l.all (fun o => decide (o.end_ = 0) || inP order o.payload) && order.all fun p => l.any fun o => decide (o.payload = p)
def pairP (order : List ByteArray) (a b : Co) : Bool := !(inP order b.payload && aheadP a b && (!inP order a.payload || decide (firstP order b.payload ≤ firstP order a.payload)))
def timelyP (l : List Co) (order : List ByteArray) : Bool := l.all fun b => l.all fun a => pairP order a b
def toldP (rs : List ByteArray) (order : List ByteArray) (o : Co) : Bool := decide (o.end_ = 0) || decide (rs.getD (firstP order o.payload).toNat default = o.reply)
def explainP (s : St) (l : List Co) (order : List ByteArray) : Int :=
 if checkO l ≠ 0 ∨ chkP s ≠ 0 then 2 else if knownP l order = false then 31 else if timelyP l order = false then 33 else
 if (l.all (toldP (foldP s order).2 order)) = true then 0 else 5
def doneP (pl : List Bool) (i : Nat) : Bool := decide (i < pl.length) && pl.getD i false
def freeAt (l : List Co) (pl : List Bool) (i : Nat) : Bool := !doneP pl i && (List.range l.length).all fun k => doneP pl k || !aheadP (l.getD k default) (l.getD i default)
def freeP (l : List Co) (pl : List Bool) : List Nat := (List.range l.length).filter (freeAt l pl)
def endedN (o : Co) : Int := if o.end_ ≠ 0 then 1 else 0
def tryP (l : List Co) : Nat → St → List ByteArray → Int → List Bool → Option (List ByteArray × List Bool)
 | n, s, so, left, pl =>
   if left = 0 then some (so, pl) else
   match n with
   | 0 => none
   | n + 1 => (freeP l pl).findSome? fun i =>
     if endedN (l.getD i default) = 1 ∧ (applyP s (l.getD i default).payload).2 ≠ (l.getD i default).reply then none else
     tryP l n (applyP s (l.getD i default).payload).1 (so ++ [(l.getD i default).payload]) (left - endedN (l.getD i default)) (pl.set i true)
def searchP (s : St) (l : List Co) : Option (List ByteArray) :=
 if checkO l ≠ 0 ∨ chkP s ≠ 0 ∨ 7 < l.length then none else (tryP l 8 s [] ((l.length : Int) - (openP l).length) (List.replicate l.length false)).map (·.1)
end Go.Proofs.YtcndnllmlhhjiaaGreatDoor
namespace Go.Proofs.YtcndnllmlhhjiaaGreatDoor
open Go.RowKit
theorem made_one (zv : Value) (q : Nat) : (madeCells #[zv] q).toList = List.replicate q zv := by
 refine List.ext_getElem (by simp [madeCells]) fun i h1 h2 => ?_
 simp [madeCells, Nat.mod_one]
theorem VRep.agree {β β' : List Hd} {w : World} {m : Nat} (hm : m ≤ β'.length) (hst : ∀ b, Still β b → Still β' b) (hag : ∀ i, i < m → β'[i]? = β[i]?) {v : Value} {X : AV} (h : VRep β w v X) (hn : NoH m X) : VRep β' w v X := by
 induction h with
 | int k n => exact .int k n
 | bool b => exact .bool b
 | str s => exact .str s
 | raw v => exact .raw v
 | agg vs cs hl _ ih => cases hn with | agg _ h => exact .agg vs cs hl fun j u x a b => ih j u x a b (h x (List.mem_of_getElem? b))
 | tup vs cs hl _ ih => cases hn with | tup _ h => exact .tup vs cs hl fun j u x a b => ih j u x a b (h x (List.mem_of_getElem? b))
 | slnil => exact .slnil
 | slemp a cap hm => exact .slemp a cap hm
 | lit b n e us hb2 hS hh => exact .lit b n e us hb2 (hst b hS) hh
 | sl b off cap z xs hc hm2 hb hS hz hd _ ih => cases hn with | sl _ h => exact .sl b off cap z xs hc hm2 hb (hst b hS) hz hd fun i j x y u a c d => ih i j x y u a c d (h x (List.mem_of_getElem? a) y (List.mem_of_getElem? c))
 | pe b off cs hb hS hd _ ih => cases hn with | pe _ h => exact .pe b off cs hb (hst b hS) hd fun j y u c d => ih j y u c d (h y (List.mem_of_getElem? c))
 | box b0 i off hi h => cases hn with | box _ _ h2 => exact .box b0 i off (by omega) (fun x b hb => h x b (by rw [hag i h2] at hb; exact hb))
 | own v i g hi h ho => cases hn with | own _ _ h2 => exact .own v i g (by omega) (fun b g' hb => h b g' (by rw [hag i h2] at hb; exact hb)) ho
 | elt v i g off hi h => cases hn with | elt _ _ _ h2 => exact .elt v i g off (by omega) fun b g' hb => h b g' (by rw [hag i h2] at hb; exact hb)
 | fn f us vs fs cs hl1 hl _ _ ih1 ih => cases hn with | fn _ _ _ h1 h => exact .fn f us vs fs cs hl1 hl (fun j u x a b => ih1 j u x a b (h1 x (List.mem_of_getElem? b))) (fun j u x a b => ih j u x a b (h x (List.mem_of_getElem? b)))
 | ifc t v x _ ih => cases hn with | ifc _ _ h => exact .ifc t v x (ih h)
 | opt c v x _ h0 ih => cases hn with | opt _ _ h => exact .opt c v x (fun e => ih e (h e)) h0
 | adr T v => exact .adr T v
 | buf e s v => exact .buf e s v
 | mh b0 i hi h => cases hn with | mh _ h2 => exact .mh b0 i (by omega) (fun x b hb => h x b (by rw [hag i h2] at hb; exact hb))
 | mp b es hb hS hm => exact .mp b es hb (hst b hS) hm
 | rc b F vs cs hb hS hc hl _ ih => cases hn with | rc _ _ h => exact .rc b F vs cs hb (hst b hS) hc hl fun j u x a b => ih j u x a b (h x (List.mem_of_getElem? b))
theorem HRel.renum {β : List Hd} {G J : List AO} {w : World} {g : Nat} {e : TypeId} {z : Nat} {zs : List AV} (h : HRel β (G ++ (.row g e z zs :: J)) w) (hg : ∀ o, o ∈ G → ∀ x, x ∈ o.conts → NoH G.length x) (hz : ∀ y, y ∈ zs.flatMap AV.cells → NoH G.length y) :
   ∃ v, β[G.length]? = some (.row v g) ∧ v.oneCell' = true ∧ HRel (β.take G.length ++ [.row v 0]) (G ++ [.row 0 e z zs]) w ∧ ∀ b, Still β b → Still (β.take G.length ++ [.row v 0]) b := by
 have hlen := h.len
 rw [List.length_append, List.length_cons] at hlen
 have hat : (G ++ (AO.row g e z zs :: J))[G.length]? = some (.row g e z zs) := by rw [List.getElem?_append_right (Nat.le_refl _), Nat.sub_self]; rfl
 have hlt : G.length < β.length := by omega
 have ho := h.ob _ _ _ hat (List.getElem?_eq_getElem hlt)
 obtain ⟨v, hv⟩ : ∃ v, β[G.length] = .row v g := by
   cases hb : β[G.length] with
   | box b => rw [hb] at ho; exact ho.elim
   | dead => rw [hb] at ho; exact ho.elim
   | guard b => rw [hb] at ho; exact ho.elim
   | map b => rw [hb] at ho; exact ho.elim
   | bld b v => rw [hb] at ho; exact ho.elim
   | row v' g' => rw [hb] at ho; obtain ⟨rfl, _⟩ := ho; exact ⟨v', rfl⟩
 have hβ : β[G.length]? = some (.row v g) := by rw [List.getElem?_eq_getElem hlt, hv]
 have hst : ∀ b, Still β b → Still (β.take G.length ++ [.row v 0]) b := by
   intro b hb x hx
   rcases List.mem_append.1 hx with hx | hx
   · exact hb x (List.mem_of_mem_take hx)
   simp at hx; subst hx
   exact hb (.row v g) (List.mem_of_getElem? hβ)
 have htl : (β.take G.length).length = G.length := by rw [List.length_take]; omega
 have hag : ∀ i, i < G.length → (β.take G.length ++ [Hd.row v 0])[i]? = β[i]? := fun i hi => by
   rw [List.getElem?_append_left (by omega), List.getElem?_take_of_lt hi]
 have hvr : ∀ {u : Value} {X : AV}, VRep β w u X → NoH G.length X → VRep (β.take G.length ++ [.row v 0]) w u X := fun hu hn => hu.agree (by simp; omega) hst hag hn
 rw [hv] at ho
 obtain ⟨_, us, k1, k2, k3⟩ := ho
 have hblk : ∀ (i : Nat) (x : Hd), (β.take G.length ++ [Hd.row v 0])[i]? = some x → ∃ y, β[i]? = some y ∧ ∀ b, b ∈ x.blks → b ∈ y.blks := by
   intro i x hx
   by_cases hi : i < G.length
   · rw [hag i hi] at hx; exact ⟨x, hx, fun b hb => hb⟩
   rw [List.getElem?_append_right (by omega), htl] at hx
   have hi2 : i - G.length = 0 := by
     have := (List.getElem?_eq_some_iff.1 hx).1
     simp at this; omega
   rw [hi2] at hx
   cases hx
   exact ⟨.row v g, by rw [show i = G.length by omega]; exact hβ, fun b hb => hb⟩
 refine ⟨v, hβ, ownsRow_one k1, ⟨h.gl.weak hst, by simp; omega, fun i o x h1 h2 => ?_, fun i j hi hj b hne h1 h2 h3 h4 => ?_⟩, hst⟩
 · by_cases hi : i < G.length
   · rw [List.getElem?_append_left hi] at h1
     rw [hag i hi] at h2
     have h3 := h.ob i o x (by rw [List.getElem?_append_left hi]; exact h1) h2
     have hmem := List.mem_of_getElem? h1
     cases x <;> cases o <;> first | exact h3.elim | skip
     · obtain ⟨arr, T, k1, k2, k3, k4⟩ := h3
       exact ⟨arr, T, k1, k2, fun j u y a c => hvr (k3 j u y a c) (hg _ hmem y (List.mem_of_getElem? c)), k4⟩
     · obtain ⟨hgg, us, k1, k2, k3⟩ := h3
       exact ⟨hgg, us, k1, k2, fun j u y a c => hvr (k3 j u y a c) (hg _ hmem y (List.mem_of_getElem? c))⟩
     · trivial
     · exact h3
     · obtain ⟨arr, T, k1, k2, k3, k4⟩ := h3
       exact ⟨arr, T, k1, k2, fun j u y a c => hvr (k3 j u y a c) (hg _ hmem y (List.mem_of_getElem? c)), k4⟩
     exact h3
   have e1 : i = G.length := by
     have := (List.getElem?_eq_some_iff.1 h1).1
     simp at this; omega
   subst e1
   rw [List.getElem?_append_right (Nat.le_refl _), Nat.sub_self] at h1
   rw [List.getElem?_append_right (by omega), htl, Nat.sub_self] at h2
   cases h1; cases h2
   exact ⟨rfl, us, k1, k2, fun j u y a c => hvr (k3 j u y a c) (hz y (List.mem_of_getElem? c))⟩
 obtain ⟨y1, q1, q2⟩ := hblk i hi h1
 obtain ⟨y2, q3, q4⟩ := hblk j hj h2
 exact h.ap i j y1 y2 b hne q1 q3 (q2 b h3) (q4 b h4)
def endR (P : Program) (fn : Func) (e : TypeId) (z : Nat) (zs : List AV) (G' : List AO) : QA := fun ex σ G L => (ex = .normal ∨ ex = .ret) ∧ G = G' ∧ ∃ g J, L = .row g e z zs :: J ∧
 ∀ (β : List Hd) (a : Act) (W : World), HRel β (G ++ L) W → SRep β W a σ → Tells P fn β a W (.own G.length g)
theorem FnNew.of {P : Program} {f : FuncId} {fn : Func} {c : Code} {args : List AV} {e : TypeId} {z : Nat} {zs : List AV} {n : Nat} (hf : P.funcs[f]? = some fn) (hb : fn.body = some c) (hn : fn.ntmps = n) (hna : args.length ≤ n) (hz : ∀ y, y ∈ zs.flatMap AV.cells → NoH 0 y)
   (h : ∀ G, GOK G.length G → AWP P n G.length c (endR P fn e z zs G) (zipS args 0) G []) : FnNew P f args e z zs := by
 intro G w β vs hH hv
 refine calls_of_wp hf hb (Code.wp_mono ?_ (h G hH.gok [] { tmps := vs ++ Array.replicate (fn.ntmps - vs.size) undef, defers := [] } w β hH.gok ?_ rfl (by rw [List.append_nil]; exact hH) ?_))
 · intro ex a' W' ⟨β', σ', G2, L', k1, k2, k3, k4, k5, k6, k7⟩
   obtain ⟨he, rfl, g, J, rfl, ht⟩ := k1
   obtain ⟨v, hr, hvr⟩ := ht β' a' W' k6 k7
   have hfin : ∃ v' β'', Ending.returned v = Ending.returned v' ∧ Ext β w β'' W' ∧ HRel β'' (G2 ++ [.row 0 e z zs]) W' ∧ VRep β'' W' v' (.own G2.length 0) := by
     obtain ⟨v2, q1, q2, q3, q4⟩ := k6.renum (fun o ho x hx => k2.2 o ho x hx) (fun y hy => (hz y hy).mono (Nat.zero_le _))
     have hev : v = v2 := by
       cases hvr with
       | own _ _ _ _ h9 => obtain ⟨_, h10⟩ := h9 v2 g q1; exact h10 rfl
     subst hev
     refine ⟨v, _, rfl, ?_, q3, ?_⟩
     · have e1 := k5
       have hgl : G2.length = β.length := hH.len.symm
       refine ⟨e1.os, e1.tape, e1.output, e1.size, e1.block, fun k hk hs => q4 k (e1.apart k hk hs), fun i x hx => ?_, e1.guard⟩
       have hi := (List.getElem?_eq_some_iff.1 hx).1
       have hl2 := k6.len
       rw [List.length_append, List.length_cons] at hl2
       rw [List.getElem?_append_left (by rw [List.length_take]; omega), List.getElem?_take_of_lt (by omega)]; exact e1.hd i x hx
     have hl2 := k6.len
     rw [List.length_append, List.length_cons] at hl2
     refine .own _ _ _ (by simp; omega) (fun u g' hb => ?_) q2
     rw [List.getElem?_append_right (by rw [List.length_take]; omega), List.length_take, Nat.min_eq_left (by omega), Nat.sub_self] at hb
     cases hb; exact ⟨Nat.le_refl _, fun _ => rfl⟩
   rcases he with rfl | rfl
   · exact ⟨k4, v, hr, hfin⟩
   exact ⟨k4, v, hr, hfin⟩
 · rw [Array.size_append, Array.size_replicate, hv.1, hn]; omega
 intro t X ht
 obtain ⟨_, h2⟩ := look_zip _ _ _ _ ht
 rw [Nat.sub_zero] at h2
 have hlt : t < vs.size := by rw [hv.1]; exact (List.getElem?_eq_some_iff.1 h2).1
 refine ⟨vs[t], ?_, hv.2 t _ _ (Array.getElem?_eq_getElem hlt) h2⟩
 show (vs ++ _)[t]? = _
 rw [Array.getElem?_append_left hlt, Array.getElem?_eq_getElem hlt]
theorem endR.one {P : Program} {fn : Func} {e : TypeId} {z g : Nat} {zs zs' : List AV} {σ : Sl} {G J : List AO} {rv : ResultVar} {ex : Exit} (he : ex = .normal ∨ ex = .ret) (hr : fn.results = #[rv]) (h : RV1 P σ (G ++ (.row g e z zs :: J)) rv (.own (G.length + 0) g)) (hX : zs = zs') : endR P fn e z zs' G ex σ G (.row g e z zs :: J) := by
 subst hX
 exact ⟨he, rfl, g, J, rfl, fun β a W hH hs => Tells.single hH hs hr h⟩
theorem FnP.of_new {P : Program} {F : FuncId} {args zs : List AV} {e : TypeId} {z : Nat} (h : FnNew P F args e z zs) (hf : ∀ y, y ∈ zs.flatMap AV.cells → NoH 0 y) : FnP P F args (.sl zs) := by
 refine ⟨.sl zs fun x hx y hy => hf y (List.mem_flatMap.2 ⟨x, hx, hy⟩), fun k w β vs hH hv => ?_⟩
 refine (h _ w β vs hH hv).mono ?_
 rintro ex w' ⟨v, β', rfl, k1, k2, k3⟩
 have hl := k2.len
 rw [List.length_append, List.length_replicate, List.length_singleton] at hl
 have hbl : β.length = k := by rw [hH.len, List.length_replicate]
 have hat : (List.replicate k AO.guard ++ [AO.row 0 e z zs])[(List.replicate k AO.guard).length]? = some (.row 0 e z zs) := by rw [List.getElem?_append_right (Nat.le_refl _), Nat.sub_self]; rfl
 refine ⟨v, β'.take β.length, rfl, k1.take, ?_, ?_⟩
 · have hb2 : β.length = (List.replicate k AO.guard).length := by rw [hbl, List.length_replicate]
   rw [hb2]
   exact k2.take fun o ho x hx => by rw [List.eq_of_mem_replicate ho] at hx; cases hx
 obtain ⟨us, q1, q2, q3, q4⟩ := k3.own_at k2 hat
 rw [List.length_replicate] at q1
 have hsl : VRep β' w' v (.sl zs) → VRep (β'.take β.length) w' v (.sl zs) := fun hh => hh.take (by omega) (.sl zs fun x hx y hy => (hf y (List.mem_flatMap.2 ⟨x, hx, hy⟩)).mono (Nat.zero_le _))
 rcases q2.2 with ⟨rfl, h0⟩ | ⟨gb, cap, cur, rfl, _, hgg, hnc, hcm, hcs, htake⟩
 · have : zs = [] := List.eq_nil_of_length_eq_zero h0
   subst this; exact .slnil
 have hgl := (Array.getElem?_eq_some_iff.1 hgg).1
 have hcell : ∀ q u, us[q]? = some u → w'.cell? ⟨gb, q, none⟩ = some u := by
   intro q u hq
   have hc := cell_of_row w' gb q cur e (0, 0) hgg
   rw [hc]
   rw [← htake, List.getElem?_take] at hq
   split at hq
   · simpa using hq
   cases hq
 have hus : us.length = zs.length * z := q2.1
 have hfl := flat_len' zs q3
 refine .sl gb 0 cap z zs hnc hcm hgl (fun x hx e5 => ?_) q3 (fun i q x y hi hq => ?_) (fun i q x y u hi hq hu => ?_)
 · obtain ⟨i, hi, rfl⟩ := List.mem_iff_getElem.1 hx
   rw [List.length_take] at hi
   have hi2 : β'[i]? = some ((β'.take β.length)[i]'(by rw [List.length_take]; omega)) := by rw [List.getElem?_eq_getElem (by omega), List.getElem_take]
   exact k2.ap k i _ _ gb (by omega) q1 hi2 (opt_mem.2 rfl) e5
 · have h7 := flat_at zs q3 i q x y hi hq
   have hlt7 : i * z + q < us.length := by rw [hus, ← hfl]; exact (List.getElem?_eq_some_iff.1 h7).1
   exact ⟨_, by rw [Nat.zero_add]; exact hcell _ _ (List.getElem?_eq_getElem hlt7)⟩
 have h7 := flat_at zs q3 i q x y hi hq
 have hlt7 : i * z + q < us.length := by rw [hus, ← hfl]; exact (List.getElem?_eq_some_iff.1 h7).1
 rw [Nat.zero_add, hcell _ _ (List.getElem?_eq_getElem hlt7)] at hu
 cases hu
 exact (q4 _ _ y (List.getElem?_eq_getElem hlt7) h7).take (by omega) ((hf y (List.mem_of_getElem? h7)).mono (Nat.zero_le _))
section
variable {P : Program} {ops : Array Oper} {n m : Nat} {QQ : List Kd → Sl → List AO → Prop} {l : List Oper} {ks : List Kd} {σ : Sl} {G L H : List AO} {o : Oper} {gd : Bool}
theorem ARun.makeSl {x y : Operand} {t e : TypeId} {j q by_ : Nat} {i : Int} {zv : Value} {Y : AV} {d : Option Tmp} (hm : GOK m G) (hj : L.length = j) (ho : o.op = .makeSlice t x y) (hd : o.dst = d) (hn : dstLt n d = true) (hg : gdS ops σ o.guard = some true)
   (hu : P.underlying t = some (.slice e)) (hi : Ti P e zv 1 by_) (hz : zv.cells = #[zv]) (h8 : by_ ≤ 8) (hx : Ev true σ x (.int .i64 i)) (hy : Ev true σ y (.int .i64 i)) (hq : i = (q : Int)) (hb : q ≤ 1000000)
   (hY : optA o.guard true (.own (m + j) 0) = Y)
   (hr : ARun P ops n QQ l (ks ++ [.new]) (putS σ d Y) (G ++ (L ++ [.row 0 e 1 (List.replicate q (cAV zv))]))) : ARun P ops n QQ (o :: l) ks σ (G ++ L) := by
 refine ARun.new (E := [.row 0 e 1 (List.replicate q (cAV zv))]) hd hn hg hY (fun H0 hl0 a W β hHr hl => ?_) (by rw [List.append_assoc]; exact hr)
 have h1 := (hx.rep rfl hl (by simp [ho, Op.operands])).int_inv
 have h2 := (hy.rep rfl hl (by simp [ho, Op.operands])).int_inv
 have hrun := run_make_row' (P := P) t e zv by_ hu hi hz .i64 .i64 q (by have := Nat.mul_le_mul h8 hb; omega) (by omega) W
 have hb : Below W.heap.size W (W.alloc (.cells (madeCells #[zv] q) e)) := (Below.refl _ _).alloc (Nat.le_refl _) _
 have hmc : (madeCells #[zv] q).toList = List.replicate q zv := made_one zv q
 have hco : ∀ (k : Nat) (X : AV), X.cells = [X] → (List.replicate k X).flatMap AV.cells = List.replicate k X := by
   intro k X hX; induction k with
   | zero => rfl
   | succ k ih => rw [List.replicate_succ, List.flatMap_cons, ih, hX]; rfl
 have hc1 : (cAV zv).cells = [cAV zv] := by unfold cAV; split <;> rfl
 have hown : (W.alloc (.cells (madeCells #[zv] q) e)).ownsRow 0 e 1 (.slice (some ⟨W.heap.size, 0, none⟩) q q) (List.replicate q (cAV zv)).length (List.replicate q zv) := by
   refine ⟨by simp, .inr ⟨W.heap.size, q, madeCells #[zv] q, by simp, Nat.zero_le _, heap_alloc_new W _, by simp, ?_, ?_, ?_⟩⟩
   · unfold maxLen; omega
   · rw [← Array.length_toList, hmc]; simp
   rw [hmc]; simp
 have hsn := hHr.snoc (w' := W.alloc (.cells (madeCells #[zv] q) e)) hb (x := .row (.slice (some ⟨W.heap.size, 0, none⟩) q q) 0) (o := .row 0 e 1 (List.replicate q (cAV zv))) ⟨rfl, _, hown, fun x hx => by rw [List.eq_of_mem_replicate hx, hc1]; rfl, fun k u y a c => by
   rw [hco _ _ hc1] at c
   have e1 := List.eq_of_mem_replicate (List.mem_of_getElem? a)
   have e2 := List.eq_of_mem_replicate (List.mem_of_getElem? c)
   rw [e1, e2]; exact cAV_rep _ _ _⟩ (fun b hb => by
     have hb2 : b ∈ (Value.slice (some ⟨W.heap.size, 0, none⟩) q q).ownBlock.toList := hb
     have := opt_mem.1 hb2
     simp [Value.ownBlock] at this; omega)
 have hlen : β.length = m + j := by rw [hHr.len, hl0, List.length_append, hm.1, hj]
 refine ⟨.slice (some ⟨W.heap.size, 0, none⟩) q q, _, β ++ [.row (.slice (some ⟨W.heap.size, 0, none⟩) q q) 0], ?_, hsn.1, hsn.2, .own _ _ _ (by rw [List.length_append, hlen]; simp) fun u g' hb => ?_⟩
 · simp [execOp, ho, h1, h2, hq, hrun]
 rw [List.getElem?_append_right (by omega), hlen, Nat.sub_self] at hb
 cases hb; exact ⟨Nat.le_refl _, fun _ => rfl⟩
end
end Go.Proofs.YtcndnllmlhhjiaaGreatDoor
