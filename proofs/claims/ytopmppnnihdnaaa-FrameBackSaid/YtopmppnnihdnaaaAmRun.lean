/- The abstract machine: one operation, a region in whatever order. -/
import Derived.Test.YtopmppnnihdnaaaAm
namespace Go.Proofs.Ytopmppnnihdnaaa
set_option linter.unusedVariables false
set_option linter.unusedSimpArgs false
open Go.RowKit
/-- the slots that an operation looks at -/
def LRep (β : List Hd) (w : World) (a : Act) (σ : Sl) (l : List Tmp) : Prop := ∀ t, t ∈ l → ∀ X, look σ t = some X → ∃ u, a.tmps[t]? = some u ∧ VRep β w u X
theorem LRep.of {β : List Hd} {w : World} {a : Act} {σ : Sl} {l : List Tmp} (h : SRep β w a σ) : LRep β w a σ l := fun t _ X hX => h t X hX
/-- an operation, of which its result is known, and what becomes of the things that may be written -/
def OpStep (P : Program) (ops : Array Oper) (o : Oper) (σ : Sl) (H : List AO) (X : AV) (H' : List AO) : Prop :=
  ∀ (a : Act) (W : World) (β : List Hd), HRel β H W → LRep β W a σ (o.looksAt ops) → ∀ (K : Act → World → Prop) (Q : Exit → Act → World → Prop),
    (∀ v W' β', Ext β W β' W' → HRel β' H' W' → VRep β' W' v X → K (a.put o.dst v) W') →
    if Region.wanted o (yielded ops a.tmps) = true then Oper.wp P o a W K Q else K (a.put o.dst undef) W
inductive Kd where
  | pure | read | write | rd | new | wf
deriving DecidableEq
def StepK (P : Program) (ops : Array Oper) : Kd → Oper → Sl → List AO → AV → List AO → Prop
  | .pure, o, σ, H, X, H' => H' = H ∧ ∀ G, OpStep P ops o σ G X G
  | .read, o, σ, H, X, H' => H' = H ∧ OpStep P ops o σ H X H
  | .write, o, σ, H, X, H' => OpStep P ops o σ H X H'
  | .rd, o, σ, H, X, H' => H' = H ∧ ∀ E, OpStep P ops o σ (H ++ E) X (H ++ E)
  | .new, o, σ, H, X, H' => ∃ E, H' = H ++ E ∧ ∀ H0 : List AO, H0.length = H.length → OpStep P ops o σ H0 X (H0 ++ E)
  | .wf, o, σ, H, X, H' => H'.length = H.length ∧ ∀ E, OpStep P ops o σ (H ++ E) X (H' ++ E)
theorem StepK.op {P : Program} {ops : Array Oper} {k : Kd} {o : Oper} {σ : Sl} {H H' : List AO} {X : AV} (h : StepK P ops k o σ H X H') : OpStep P ops o σ H X H' := by
  cases k with
  | pure => obtain ⟨e, h⟩ := h; rw [e]; exact h H
  | read => obtain ⟨e, h⟩ := h; rw [e]; exact h
  | write => exact h
  | rd =>
    obtain ⟨e, h⟩ := h
    rw [e]
    have := h []
    rw [List.append_nil] at this; exact this
  | new => obtain ⟨E, e, h⟩ := h; rw [e]; exact h H rfl
  | wf =>
    have := h.2 []
    rw [List.append_nil, List.append_nil] at this; exact this
def dstLt (n : Nat) : Option Tmp → Bool
  | none => true
  | some d => Nat.blt d n
theorem dstLt_spec {n : Nat} {d : Option Tmp} (h : dstLt n d = true) : ∀ t, d = some t → t < n := by
  intro t e; subst e; exact Nat.lt_of_lt_of_le (Nat.lt_of_succ_le (Nat.le_of_ble_eq_true h)) (Nat.le_refl _)
/-- operations one by one, in the order of the text -/
def ARun (P : Program) (ops : Array Oper) (n : Nat) (Q : List Kd → Sl → List AO → Prop) : List Oper → List Kd → Sl → List AO → Prop
  | [], ks, σ, H => Q ks σ H
  | o :: l, ks, σ, H => ∃ k X H', dstLt n o.dst = true ∧ StepK P ops k o σ H X H' ∧ ARun P ops n Q l (ks ++ [k]) (putS σ o.dst X) H'
/-- the region in its text's order -/
theorem run_list {P : Program} {ops : Array Oper} {n : Nat} {QA : List Kd → Sl → List AO → Prop} {Q : Exit → Act → World → Prop} : ∀ (l : List Oper) (ks : List Kd) (σ : Sl) (H : List AO) (a : Act) (W : World) (β : List Hd),
    ARun P ops n QA l ks σ H → a.tmps.size = n → HRel β H W → SRep β W a σ →
    (∀ ks' σ' H' a' W' β', QA ks' σ' H' → a'.tmps.size = n → a'.defers = a.defers → Ext β W β' W' → HRel β' H' W' → SRep β' W' a' σ' → Q .normal a' W') → wpList P ops Q l a W := by
  intro l
  induction l with
  | nil => intro ks σ H a W β h hn hH hs hQ; exact hQ ks σ H a W β h hn rfl (Ext.refl _ _) hH hs
  | cons o l ih =>
    intro ks σ H a W β h hn hH hs hQ
    obtain ⟨k, X, H', hd, hst, hr⟩ := h
    refine wpList_step fun K hK => ?_
    refine hst.op a W β hH (LRep.of hs) K Q fun v W' β' hx hH' hv => hK _ _ ?_
    refine ih _ _ _ (a.put o.dst v) W' β' hr (by rw [put_size]; exact hn) hH' ((hs.ext hx).put o.dst (fun t e => by rw [hn]; exact dstLt_spec hd t e) hv) ?_
    intro ks' σ' H'' a' W'' β'' q1 q2 q3 q4 q5 q6
    exact hQ ks' σ' H'' a' W'' β'' q1 q2 (by rw [q3, put_def]) (hx.trans q4) q5 q6
/-- what a run holds, by the number of the operation -/
theorem run_seqs {P : Program} {ops : Array Oper} {n : Nat} {QA : List Kd → Sl → List AO → Prop} : ∀ (l : List Oper) (ks : List Kd) (σ : Sl) (H : List AO), ARun P ops n QA l ks σ H →
    ∃ (Xs : Nat → AV) (σs : Nat → Sl) (Hs : Nat → List AO) (kk : Nat → Kd), σs 0 = σ ∧ Hs 0 = H ∧
      (∀ (i : Nat) (o : Oper), l[i]? = some o → dstLt n o.dst = true ∧ StepK P ops (kk i) o (σs i) (Hs i) (Xs i) (Hs (i + 1)) ∧ σs (i + 1) = putS (σs i) o.dst (Xs i)) ∧
      QA (ks ++ (List.range l.length).map kk) (σs l.length) (Hs l.length) := by
  intro l
  induction l with
  | nil => intro ks σ H h; exact ⟨fun _ => .raw undef, fun _ => σ, fun _ => H, fun _ => .pure, rfl, rfl, fun i o h => by simp at h, by have h' : QA ks σ H := h; simpa using h'⟩
  | cons o l ih =>
    intro ks σ H h
    obtain ⟨k, X, H', hd, hst, hr⟩ := h
    obtain ⟨Xs, σs, Hs, kk, h1, h2, h3, h4⟩ := ih _ _ _ hr
    refine ⟨fun i => match i with | 0 => X | i + 1 => Xs i, fun i => match i with | 0 => σ | i + 1 => σs i, fun i => match i with | 0 => H | i + 1 => Hs i, fun i => match i with | 0 => k | i + 1 => kk i, rfl, rfl, ?_, ?_⟩
    · intro i o' hi
      cases i with
      | zero =>
        simp at hi
        subst hi
        exact ⟨hd, by show StepK P ops k o σ H X (Hs 0); rw [h2]; exact hst, h1⟩
      | succ i => exact h3 i o' (by simpa using hi)
    · have e : (List.range (o :: l).length).map (fun i => match i with | 0 => k | i + 1 => kk i) = k :: (List.range l.length).map kk := by
        rw [List.length_cons, List.range_succ_eq_map, List.map_cons, List.map_map]
        rfl
      rw [e]
      simpa using h4
/-- two operations, one of which writes what the other one sees, come one behind the other -/
def kdApart (x y : Kd) : Bool := match x, y with | .pure, _ => true | _, .pure => true | .read, .read => true | .read, .rd => true | .rd, .read => true | .rd, .rd => true | .rd, .new => true | .wf, .new => true | _, _ => false
def okKd (ops : Array Oper) (ks : List Kd) : Bool :=
  let m := rgM ops ops.size
  (List.range ops.size).all fun i => (List.range i).all fun j => kdApart (ks.getD j .pure) (ks.getD i .pure) || (m.getD i 0).testBit j
/-- what an operation does to the things: whatever came before it -/
def stepT (Hs : Nat → List AO) (k : Kd) (i : Nat) (S : List AO) : List AO := match k with
  | .write => Hs (i + 1)
  | .new => S ++ (Hs (i + 1)).drop (Hs i).length
  | .wf => Hs (i + 1) ++ S.drop (Hs i).length
  | _ => S
section
variable (Xs : Nat → AV) (dst : Nat → Option Tmp) (Hs : Nat → List AO) (kk : Nat → Kd) (sel : Nat → Bool)
def selS (σ0 : Sl) : Nat → Sl
  | 0 => σ0
  | k + 1 => if sel k = true then putS (selS σ0 k) (dst k) (Xs k) else selS σ0 k
def selH (H0 : List AO) : Nat → List AO
  | 0 => H0
  | k + 1 => if sel k = true then stepT Hs (kk k) k (selH H0 k) else selH H0 k
end
theorem selS_succ (Xs : Nat → AV) (dst : Nat → Option Tmp) (sel : Nat → Bool) (σ0 : Sl) (k : Nat) : selS Xs dst sel σ0 (k + 1) = if sel k = true then putS (selS Xs dst sel σ0 k) (dst k) (Xs k) else selS Xs dst sel σ0 k := rfl
theorem selH_succ (Hs : Nat → List AO) (kk : Nat → Kd) (sel : Nat → Bool) (H0 : List AO) (k : Nat) : selH Hs kk sel H0 (k + 1) = if sel k = true then stepT Hs (kk k) k (selH Hs kk sel H0 k) else selH Hs kk sel H0 k := rfl
theorem SRep.congr {β : List Hd} {w : World} {a : Act} {σ σ' : Sl} (h : SRep β w a σ) (e : ∀ t, look σ' t = look σ t) : SRep β w a σ' := fun t X ht => h t X (by rw [← e]; exact ht)
def isW : Kd → Bool | .write => true | .new => true | .wf => true | _ => false
theorem stepT_no {Hs : Nat → List AO} {k : Kd} {i : Nat} {S : List AO} (h : isW k = false) : stepT Hs k i S = S := by cases k <;> first | rfl | cases h
theorem kdA1 {x y : Kd} (h : kdApart x y = true) (hx : x ≠ .pure) (hw : isW y = true) : y = .new := by cases x <;> cases y <;> first | rfl | exact absurd rfl hx | exact absurd hw (by decide) | exact absurd h (by decide)
theorem kdA0 {x y : Kd} (h : kdApart x y = true) (hx : x ≠ .pure) (hr : x ≠ .rd) (hf : x ≠ .wf) : isW y = false := by cases x <;> cases y <;> first | rfl | exact absurd rfl hx | exact absurd rfl hr | exact absurd rfl hf | cases h
theorem kdA2 {x y : Kd} (h : kdApart x y = true) (hx : y ≠ .pure) (hy : y ≠ .new) : isW x = false := by cases x <;> cases y <;> first | rfl | exact absurd rfl hx | exact absurd rfl hy | cases h
theorem kdA3 {x : Kd} (h : kdApart x .new = true) (hw : isW x = true) : x = .wf := by cases x <;> first | rfl | exact absurd hw (by decide) | exact absurd h (by decide)
set_option maxHeartbeats 1000000 in
theorem run_any {P : Program} {ops : Array Oper} {n : Nat} {Q : Exit → Act → World → Prop} (hok : rgOk ops = true) (Xs : Nat → AV) (σs : Nat → Sl) (Hs : Nat → List AO) (kk : Nat → Kd)
    (hkd : okKd ops ((List.range ops.size).map kk) = true)
    (hst : ∀ (i : Nat) (o : Oper), ops[i]? = some o → dstLt n o.dst = true ∧ StepK P ops (kk i) o (σs i) (Hs i) (Xs i) (Hs (i + 1)) ∧ σs (i + 1) = putS (σs i) o.dst (Xs i))
    (β0 : List Hd) (W0 : World) (D : List Deferred)
    (hQ : ∀ a W β, a.tmps.size = n → a.defers = D → Ext β0 W0 β W → HRel β (Hs ops.size) W → SRep β W a (σs ops.size) → Q .normal a W) :
    ∀ (fuel : Nat) (listed : Array Bool) (a : Act) (W : World) (β : List Hd), listed.size = ops.size →
      fuel = ((List.range ops.size).filter fun j => !listed.getD j false).length →
      (∀ i, listed.getD i false = true → ∀ e, e ∈ rgEdges ops i → listed.getD e false = true) →
      a.tmps.size = n → a.defers = D → Ext β0 W0 β W → HRel β (selH Hs kk (fun j => listed.getD j false) (Hs 0) ops.size) W →
      SRep β W a (selS Xs (rgDst ops) (fun j => listed.getD j false) (σs 0) ops.size) → wpAny P .any ops Q fuel listed a W := by
  unfold rgOk at hok
  unfold okKd at hkd
  simp only [Bool.and_eq_true, List.all_eq_true, List.mem_range, Bool.or_eq_true, decide_eq_true_eq] at hok hkd
  obtain ⟨_, hok⟩ := hok
  have hdst : ∀ i o, ops[i]? = some o → rgDst ops i = o.dst := fun i o ho => by simp [rgDst, ho]
  have hop : ∀ i, i < ops.size → ∃ o, ops[i]? = some o := fun i hi => ⟨_, Array.getElem?_eq_getElem hi⟩
  have hkk : ∀ i, i < ops.size → ((List.range ops.size).map kk).getD i .pure = kk i := by
    intro i hi
    rw [List.getD, List.getElem?_map, List.getElem?_range hi]; rfl
  have hT : ∀ i, i < ops.size → stepT Hs (kk i) i (Hs i) = Hs (i + 1) := by
    intro i hi
    obtain ⟨o, ho⟩ := hop i hi
    have h1 := (hst i o ho).2.1
    cases hk : kk i with
    | pure => rw [hk] at h1; exact h1.1.symm
    | read => rw [hk] at h1; exact h1.1.symm
    | write => rfl
    | rd => rw [hk] at h1; exact h1.1.symm
    | new =>
      rw [hk] at h1
      obtain ⟨E, e, _⟩ := h1
      show Hs i ++ (Hs (i + 1)).drop (Hs i).length = Hs (i + 1)
      rw [e]; simp
    | wf =>
      show Hs (i + 1) ++ (Hs i).drop (Hs i).length = Hs (i + 1)
      simp
  have hlen : ∀ i, i < ops.size → ∀ S : List AO, S.length = (Hs i).length → (stepT Hs (kk i) i S).length = (Hs (i + 1)).length := by
    intro i hi S hS
    have hh := hT i hi
    cases hk : kk i with
    | write => rfl
    | new =>
      rw [hk] at hh
      have hh' : Hs i ++ (Hs (i + 1)).drop (Hs i).length = Hs (i + 1) := hh
      have h3 := congrArg List.length hh'
      rw [List.length_append] at h3
      show (S ++ (Hs (i + 1)).drop (Hs i).length).length = _
      rw [List.length_append, hS]; exact h3
    | wf =>
      show (Hs (i + 1) ++ S.drop (Hs i).length).length = _
      rw [List.length_append, List.length_drop]; omega
    | pure => rw [hk] at hh; rw [← hh]; exact hS
    | read => rw [hk] at hh; rw [← hh]; exact hS
    | rd => rw [hk] at hh; rw [← hh]; exact hS
  have hput : ∀ i, i < ops.size → σs (i + 1) = putS (σs i) (rgDst ops i) (Xs i) := by
    intro i hi
    obtain ⟨o, ho⟩ := hop i hi
    rw [hdst i o ho]; exact (hst i o ho).2.2
  -- nothing left
  have hdone : ∀ (listed : Array Bool), listed.size = ops.size → Region.ready .any ops listed = [] → ∀ i, i < ops.size → listed.getD i false = true := by
    intro listed hsz hr i
    induction i using Nat.strongRecOn with
    | _ i ih =>
      intro hi
      cases hl : listed.getD i false with
      | true => rfl
      | false =>
        exfalso
        have hm : i ∈ Region.ready .any ops listed := by
          unfold Region.ready
          rw [List.mem_filter]
          refine ⟨List.mem_range.2 hi, ?_⟩
          have h1 : listed.getD i true = false := by
            rw [Array.getD_eq_getD_getElem?] at hl ⊢
            rw [Array.getElem?_eq_getElem (by omega)] at hl ⊢
            exact hl
          rw [h1, Array.getElem?_eq_getElem hi]
          simp only [Bool.not_false, Bool.true_and, Option.map_some, Option.getD_some]
          rw [Array.all_eq_true_iff_forall_mem]
          intro e he
          by_cases hb : Region.binds .any e = true
          · have hmem : e.on ∈ rgEdges ops i := by
              unfold rgEdges; rw [Array.getElem?_eq_getElem hi]
              exact List.mem_map.2 ⟨e, List.mem_filter.2 ⟨by simpa using he, hb⟩, rfl⟩
            have hlt := (hok i hi).1 _ hmem
            simp [ih e.on hlt (by omega)]
          · simp [hb]
        rw [hr] at hm
        cases hm
  have hfin : ∀ (listed : Array Bool) (a : Act) (W : World) (β : List Hd), (∀ i, i < ops.size → listed.getD i false = true) →
      a.tmps.size = n → a.defers = D → Ext β0 W0 β W → HRel β (selH Hs kk (fun j => listed.getD j false) (Hs 0) ops.size) W →
      SRep β W a (selS Xs (rgDst ops) (fun j => listed.getD j false) (σs 0) ops.size) → Q .normal a W := by
    intro listed a W β hall h1 h2 h3 h4 h5
    have e1 : ∀ k, k ≤ ops.size → selH Hs kk (fun j => listed.getD j false) (Hs 0) k = Hs k := by
      intro k
      induction k with
      | zero => intro _; rfl
      | succ k ih =>
        intro hk
        rw [selH_succ, hall k (by omega), if_pos rfl, ih (by omega)]
        exact hT k (by omega)
    have e2 : ∀ k, k ≤ ops.size → selS Xs (rgDst ops) (fun j => listed.getD j false) (σs 0) k = σs k := by
      intro k
      induction k with
      | zero => intro _; rfl
      | succ k ih =>
        intro hk
        unfold selS
        rw [hall k (by omega), if_pos rfl, ih (by omega), hput k (by omega)]
    rw [e1 _ (Nat.le_refl _)] at h4
    rw [e2 _ (Nat.le_refl _)] at h5
    exact hQ a W β h1 h2 h3 h4 h5
  intro fuel
  induction fuel with
  | zero =>
    intro listed a W β hsz hc hcl h1 h2 h3 h4 h5
    have hall : ∀ i, i < ops.size → listed.getD i false = true := by
      intro i hi
      cases hx : listed.getD i false with
      | true => rfl
      | false =>
        have hm : i ∈ (List.range ops.size).filter fun j => !listed.getD j false := List.mem_filter.2 ⟨List.mem_range.2 (by omega), by simp [hx]⟩
        have := List.length_pos_of_mem hm
        omega
    refine ⟨?_, hfin listed a W β hall h1 h2 h3 h4 h5⟩
    unfold Region.ready
    rw [List.filter_eq_nil_iff]
    intro i hi
    have hlt := List.mem_range.1 hi
    have h6 := hall i hlt
    rw [Array.getD_eq_getD_getElem?, Array.getElem?_eq_getElem (by omega)] at h6
    have : listed.getD i true = true := by
      rw [Array.getD_eq_getD_getElem?, Array.getElem?_eq_getElem (by omega)]; exact h6
    simp [this]
  | succ fuel ih =>
    intro listed a W β hsz hc hcl h1 h2 h3 h4 h5
    refine ⟨fun hr => hfin listed a W β (hdone listed hsz hr) h1 h2 h3 h4 h5, fun i hi => ?_⟩
    unfold Region.ready at hi
    rw [List.mem_filter, List.mem_range] at hi
    obtain ⟨hin, hi⟩ := hi
    obtain ⟨o, ho⟩ := hop i hin
    rw [ho] at hi
    simp only [Option.map_some, Option.getD_some, Bool.and_eq_true, Bool.not_eq_true'] at hi
    obtain ⟨hnl, hrd⟩ := hi
    have hnl2 : listed.getD i false = false := by
      rw [Array.getD_eq_getD_getElem?] at hnl ⊢
      rw [Array.getElem?_eq_getElem (by omega)] at hnl ⊢
      exact hnl
    rw [Array.all_eq_true_iff_forall_mem] at hrd
    have hed : ∀ e, e ∈ rgEdges ops i → listed.getD e false = true := by
      intro e he
      unfold rgEdges at he
      rw [ho] at he
      obtain ⟨x, hx, rfl⟩ := List.mem_map.1 he
      rw [List.mem_filter] at hx
      have := hrd x (by simpa using hx.1)
      simpa [hx.2] using this
    have hpredl : ∀ j, rgPred ops j i = true → listed.getD j false = true := fun j hj => rgM_sound ops (fun j => listed.getD j false = true) hcl ops.size i j hin hed hj
    have hnopred : ∀ j, j < ops.size → listed.getD j false = true → rgPred ops i j = false := by
      intro j hj hl
      cases hp : rgPred ops i j with
      | false => rfl
      | true =>
        have := rgM_sound ops (fun j => listed.getD j false = true) hcl ops.size j i hj (hcl j hl) hp
        rw [hnl2] at this; cases this
    -- behind: apart
    have hap1 : ∀ k, k < i → listed.getD k false = false → rgApart ops k i = true := by
      intro k hk hl
      rcases (hok i hin).2 k hk with h | h
      · exact h
      · have := hpredl k h; rw [hl] at this; cases this
    have hap2 : ∀ k, i < k → k < ops.size → listed.getD k false = true → rgApart ops i k = true := by
      intro k hk hkn hl
      rcases (hok k hkn).2 i hk with h | h
      · exact h
      · have := hnopred k hkn hl; unfold rgPred at this; rw [h] at this; cases this
    have hlookA : ∀ t, t ∈ o.looksAt ops → look (selS Xs (rgDst ops) (fun j => listed.getD j false) (σs 0) ops.size) t = look (σs i) t := by
      intro t ht
      have e1 : ∀ k, k ≤ i → look (selS Xs (rgDst ops) (fun j => listed.getD j false) (σs 0) k) t = look (σs k) t := by
        intro k
        induction k with
        | zero => intro _; rfl
        | succ k ihk =>
          intro hk
          have hk2 : k < ops.size := by omega
          rw [hput k hk2, look_put]
          show look (if listed.getD k false = true then _ else _) t = _
          cases hl : listed.getD k false with
          | true => rw [if_pos rfl, look_put, ihk (by omega)]
          | false =>
            rw [if_neg (by simp), ihk (by omega)]
            have h6 := hap1 k (by omega) hl
            obtain ⟨ok, hok2⟩ := hop k hk2
            unfold rgApart at h6
            rw [hok2, ho] at h6
            have h7 := (Oper.apart_spec h6).1
            rw [if_neg]
            intro e
            rw [hdst k ok hok2] at e
            exact h7 t e ht
      have e2 : ∀ m, look (selS Xs (rgDst ops) (fun j => listed.getD j false) (σs 0) (i + m)) t = look (selS Xs (rgDst ops) (fun j => listed.getD j false) (σs 0) i) t ∨ ops.size < i + m := by
        intro m
        induction m with
        | zero => exact .inl rfl
        | succ m ihm =>
          rcases ihm with ihm | ihm
          · by_cases hlt : i + m < ops.size
            · left
              rw [← ihm]
              rw [show i + (m + 1) = (i + m) + 1 from rfl, selS_succ]
              cases hl : listed.getD (i + m) false with
              | false => rw [if_neg (by simp)]
              | true =>
                rw [if_pos rfl, look_put]
                refine if_neg ?_
                intro e
                have hm0 : i < i + m := by
                  rcases Nat.eq_zero_or_pos m with h0 | h0
                  · subst h0; rw [Nat.add_zero, hnl2] at hl; cases hl
                  · omega
                have h6 := hap2 _ hm0 hlt hl
                obtain ⟨ok, hok2⟩ := hop _ hlt
                unfold rgApart at h6
                rw [hok2, ho] at h6
                rw [hdst _ ok hok2] at e
                exact (Oper.apart_spec h6).2.2 t e ht
            · right; omega
          · right; omega
      have := e2 (ops.size - i)
      rw [show i + (ops.size - i) = ops.size by omega] at this
      rcases this with h | h
      · rw [h]; exact e1 i (Nat.le_refl _)
      · omega
    -- what was done of the later ones: new things alone
    have hHbehind : kk i ≠ .pure → ∀ k, i < k → k < ops.size → listed.getD k false = true → isW (kk k) = true → kk k = .new := by
      intro hp k hk hkn hl hw
      have h6 := hkd k hkn i hk
      rw [hkk i hin, hkk k hkn] at h6
      rcases h6 with h6 | h6
      · exact kdA1 h6 hp hw
      · have := hnopred k hkn hl; unfold rgPred at this; rw [h6] at this; cases this
    have hHnone : kk i ≠ .pure → kk i ≠ .rd → kk i ≠ .wf → ∀ k, i < k → k < ops.size → listed.getD k false = true → isW (kk k) = false := by
      intro hp hr hf k hk hkn hl
      have h6 := hkd k hkn i hk
      rw [hkk i hin, hkk k hkn] at h6
      rcases h6 with h6 | h6
      · exact kdA0 h6 hp hr hf
      · have := hnopred k hkn hl; unfold rgPred at this; rw [h6] at this; cases this
    have hHahead : kk i ≠ .pure → kk i ≠ .new → ∀ k, k < i → isW (kk k) = true → listed.getD k false = true := by
      intro hp hn k hk hw
      have h6 := hkd i hin k hk
      rw [hkk i hin, hkk k (by omega)] at h6
      rcases h6 with h6 | h6
      · rw [kdA2 h6 hp hn] at hw; cases hw
      · exact hpredl k h6
    have hHe : kk i ≠ .pure → kk i ≠ .new → selH Hs kk (fun j => listed.getD j false) (Hs 0) i = Hs i := by
      intro hp hn
      have e1 : ∀ k, k ≤ i → selH Hs kk (fun j => listed.getD j false) (Hs 0) k = Hs k := by
        intro k
        induction k with
        | zero => intro _; rfl
        | succ k ihk =>
          intro hk
          rw [selH_succ, ihk (by omega), hT k (by omega)]
          cases hw : isW (kk k) with
          | true => rw [hHahead hp hn k (by omega) hw, if_pos rfl]
          | false =>
            have := hT k (by omega)
            rw [stepT_no hw] at this
            rw [this, ite_self]
      exact e1 i (Nat.le_refl _)
    have hHl : kk i = .new → (selH Hs kk (fun j => listed.getD j false) (Hs 0) i).length = (Hs i).length := by
      intro hn
      have e1 : ∀ k, k ≤ i → (selH Hs kk (fun j => listed.getD j false) (Hs 0) k).length = (Hs k).length := by
        intro k
        induction k with
        | zero => intro _; rfl
        | succ k ihk =>
          intro hk
          have ihk := ihk (by omega)
          rw [selH_succ]
          cases hl : listed.getD k false with
          | true => rw [if_pos rfl]; exact hlen k (by omega) _ ihk
          | false =>
            rw [if_neg (by simp), ihk]
            cases hw : isW (kk k) with
            | false =>
              have := hT k (by omega)
              rw [stepT_no hw] at this
              rw [this]
            | true =>
              have h6 := hkd i hin k (by omega)
              rw [hkk i hin, hkk k (by omega), hn] at h6
              rcases h6 with h6 | h6
              · have hwf := kdA3 h6 hw
                obtain ⟨o', ho'⟩ := hop k (by omega)
                have h1 := (hst k o' ho').2.1
                rw [hwf] at h1
                exact h1.1.symm
              · rw [hpredl k h6] at hl; cases hl
      exact e1 i (Nat.le_refl _)
    -- the tail: what the later ones have made
    let tl : Nat → List AO := fun m => Nat.rec [] (fun q t => if listed.getD (i + 1 + q) false = true ∧ kk (i + 1 + q) = .new then t ++ (Hs (i + 1 + q + 1)).drop (Hs (i + 1 + q)).length else t) m
    have htl0 : tl 0 = [] := rfl
    have htls : ∀ q, tl (q + 1) = if listed.getD (i + 1 + q) false = true ∧ kk (i + 1 + q) = .new then tl q ++ (Hs (i + 1 + q + 1)).drop (Hs (i + 1 + q)).length else tl q := fun q => rfl
    have htail : kk i ≠ .pure → ∀ sel : Nat → Bool, (∀ k, i < k → sel k = listed.getD k false) → ∀ m, i + 1 + m ≤ ops.size → selH Hs kk sel (Hs 0) (i + 1 + m) = selH Hs kk sel (Hs 0) (i + 1) ++ tl m := by
      intro hp sel hs m
      induction m with
      | zero => intro _; rw [htl0, List.append_nil, Nat.add_zero]
      | succ m ihm =>
        intro hm
        rw [show i + 1 + (m + 1) = (i + 1 + m) + 1 from rfl, selH_succ, ihm (by omega), hs _ (by omega), htls]
        cases hl : listed.getD (i + 1 + m) false with
        | false => rw [if_neg (by simp), if_neg (by simp)]
        | true =>
          rw [if_pos rfl]
          cases hw : isW (kk (i + 1 + m)) with
          | false => rw [stepT_no hw, if_neg (by intro h; rw [h.2] at hw; cases hw)]
          | true =>
            have hn := hHbehind hp _ (by omega) (by omega) hl hw
            rw [hn, if_pos ⟨rfl, rfl⟩]
            show (selH Hs kk sel (Hs 0) (i + 1) ++ tl m) ++ _ = _
            rw [List.append_assoc]
    have htnone : kk i ≠ .pure → kk i ≠ .rd → kk i ≠ .wf → ∀ m, i + 1 + m ≤ ops.size → tl m = [] := by
      intro hp hr hf m
      induction m with
      | zero => intro _; rfl
      | succ m ihm =>
        intro hm
        rw [htls, ihm (by omega), if_neg]
        rintro ⟨hl, hn⟩
        have := hHnone hp hr hf _ (by omega) (by omega) hl
        rw [hn] at this; cases this
    obtain ⟨hdl, hstep, _⟩ := hst i o ho
    -- the step itself, at what is there now
    have hstep2 : OpStep P ops o (σs i) (selH Hs kk (fun j => listed.getD j false) (Hs 0) ops.size) (Xs i)
        (selH Hs kk (fun j => (listed.setIfInBounds i true).getD j false) (Hs 0) ops.size) := by
      have hgs : ∀ j, (listed.setIfInBounds i true).getD j false = (decide (j = i) || listed.getD j false) := fun j => getD_set listed i j (by omega)
      have hbef : ∀ k, k ≤ i → selH Hs kk (fun j => (listed.setIfInBounds i true).getD j false) (Hs 0) k = selH Hs kk (fun j => listed.getD j false) (Hs 0) k := by
        intro k
        induction k with
        | zero => intro _; rfl
        | succ k ihk =>
          intro hk
          rw [selH_succ, selH_succ, ihk (by omega), hgs, decide_eq_false (by omega), Bool.false_or]
      have hsz1 : i + 1 + (ops.size - (i + 1)) = ops.size := by omega
      have hA : selH Hs kk (fun j => listed.getD j false) (Hs 0) (i + 1) = selH Hs kk (fun j => listed.getD j false) (Hs 0) i := by
        rw [selH_succ, hnl2, if_neg (by simp)]
      have hB : selH Hs kk (fun j => (listed.setIfInBounds i true).getD j false) (Hs 0) (i + 1) = stepT Hs (kk i) i (selH Hs kk (fun j => listed.getD j false) (Hs 0) i) := by
        rw [selH_succ, hgs, decide_eq_true rfl, Bool.true_or, if_pos rfl, hbef i (Nat.le_refl _)]
      by_cases hp : kk i = .pure
      · have : selH Hs kk (fun j => (listed.setIfInBounds i true).getD j false) (Hs 0) ops.size = selH Hs kk (fun j => listed.getD j false) (Hs 0) ops.size := by
          have hall : ∀ k, selH Hs kk (fun j => (listed.setIfInBounds i true).getD j false) (Hs 0) k = selH Hs kk (fun j => listed.getD j false) (Hs 0) k := by
            intro k
            induction k with
            | zero => rfl
            | succ k ihk =>
              rw [selH_succ, selH_succ, hgs, ihk]
              by_cases e : k = i
              · subst e; rw [hp]; simp [stepT]
              · simp [e]
          exact hall _
        rw [this]
        rw [hp] at hstep
        exact hstep.2 _
      · have hS := htail hp (fun j => listed.getD j false) (fun _ _ => rfl) (ops.size - (i + 1)) (by omega)
        have hS' := htail hp (fun j => (listed.setIfInBounds i true).getD j false) (fun k hk => by show (listed.setIfInBounds i true).getD k false = _; rw [hgs, decide_eq_false (by omega), Bool.false_or]) (ops.size - (i + 1)) (by omega)
        rw [hsz1, hA] at hS
        rw [hsz1, hB] at hS'
        rw [hS, hS']
        cases hk : kk i with
        | pure => exact absurd hk hp
        | read =>
          rw [hk] at hstep
          rw [htnone hp (by rw [hk]; simp) (by rw [hk]; simp) _ (by omega), List.append_nil, List.append_nil, hHe hp (by rw [hk]; simp)]
          exact hstep.2
        | rd =>
          rw [hk] at hstep
          rw [hHe hp (by rw [hk]; simp)]
          exact hstep.2 _
        | write =>
          rw [hk] at hstep
          rw [htnone hp (by rw [hk]; simp) (by rw [hk]; simp) _ (by omega), List.append_nil, List.append_nil, hHe hp (by rw [hk]; simp)]
          exact hstep
        | new =>
          rw [hk] at hstep
          obtain ⟨E, e, hE⟩ := hstep
          rw [htnone hp (by rw [hk]; simp) (by rw [hk]; simp) _ (by omega), List.append_nil, List.append_nil]
          have hd : (Hs (i + 1)).drop (Hs i).length = E := by rw [e]; simp
          show OpStep P ops o (σs i) _ (Xs i) (_ ++ (Hs (i + 1)).drop (Hs i).length)
          rw [hd]
          exact hE _ (hHl hk)
        | wf =>
          rw [hk] at hstep
          rw [hHe hp (by rw [hk]; simp)]
          have := hT i hin
          rw [hk] at this
          rw [this]
          exact hstep.2 _
    -- behind it
    have hlookC : ∀ t, look (selS Xs (rgDst ops) (fun j => (listed.setIfInBounds i true).getD j false) (σs 0) ops.size) t = look (putS (selS Xs (rgDst ops) (fun j => listed.getD j false) (σs 0) ops.size) (rgDst ops i) (Xs i)) t := by
      intro t
      have hgs : ∀ j, (listed.setIfInBounds i true).getD j false = (decide (j = i) || listed.getD j false) := fun j => getD_set listed i j (by omega)
      have e1 : ∀ k, k ≤ i → selS Xs (rgDst ops) (fun j => (listed.setIfInBounds i true).getD j false) (σs 0) k = selS Xs (rgDst ops) (fun j => listed.getD j false) (σs 0) k := by
        intro k
        induction k with
        | zero => intro _; rfl
        | succ k ihk =>
          intro hk
          show (if (listed.setIfInBounds i true).getD k false = true then _ else _) = (if listed.getD k false = true then _ else _)
          rw [hgs, ihk (by omega), decide_eq_false (by omega), Bool.false_or]
      have e2 : ∀ m, i + 1 + m ≤ ops.size → look (selS Xs (rgDst ops) (fun j => (listed.setIfInBounds i true).getD j false) (σs 0) (i + 1 + m)) t = look (putS (selS Xs (rgDst ops) (fun j => listed.getD j false) (σs 0) (i + 1 + m)) (rgDst ops i) (Xs i)) t := by
        intro m
        induction m with
        | zero =>
          intro _
          show look (if (listed.setIfInBounds i true).getD i false = true then _ else _) t = look (putS (if listed.getD i false = true then _ else _) _ _) t
          rw [hgs, hnl2, decide_eq_true rfl, Bool.true_or, if_pos rfl, if_neg (by simp), e1 i (Nat.le_refl _)]
        | succ m ihm =>
          intro hm
          rw [show i + 1 + (m + 1) = (i + 1 + m) + 1 from rfl, selS_succ, selS_succ, hgs, decide_eq_false (by omega), Bool.false_or]
          have ihm := ihm (by omega)
          cases hl : listed.getD (i + 1 + m) false with
          | false => rw [if_neg (by simp), if_neg (by simp)]; exact ihm
          | true =>
            rw [if_pos rfl, if_pos rfl, look_put, ihm, look_put, look_put, look_put]
            have h6 := hap2 _ (by omega) (by omega) hl
            obtain ⟨ok, hok2⟩ := hop (i + 1 + m) (by omega)
            unfold rgApart at h6
            rw [hok2, ho] at h6
            have h7 := (Oper.apart_spec h6).2.1
            rw [hdst _ ok hok2, hdst i o ho]
            by_cases c1 : ok.dst = some t
            · rw [if_pos c1]
              by_cases c2 : o.dst = some t
              · exact absurd c1 (h7 t c2)
              · rw [if_neg c2, if_pos c1]
            · rw [if_neg c1, if_neg c1]
      have := e2 (ops.size - (i + 1)) (by omega)
      rw [show i + 1 + (ops.size - (i + 1)) = ops.size by omega] at this
      exact this
    have hlr : LRep β W a (σs i) (o.looksAt ops) := fun t ht X hX => h5 t X (by rw [hlookA t ht]; exact hX)
    have hres := hstep2 a W β h4 hlr (wpAny P .any ops Q fuel (listed.setIfInBounds i true)) Q fun v W' β' hx hH' hv => by
      refine ih (listed.setIfInBounds i true) (a.put o.dst v) W' β' (by simpa using hsz) ?_ ?_ (by rw [put_size]; exact h1) (by rw [put_def]; exact h2) (h3.trans hx) hH' ?_
      · have hgs : ∀ j, (listed.setIfInBounds i true).getD j false = (decide (j = i) || listed.getD j false) := fun j => getD_set listed i j (by omega)
        have h6 : ((List.range ops.size).filter fun j => !(listed.setIfInBounds i true).getD j false) = ((List.range ops.size).filter fun j => !listed.getD j false).erase i := by
          rw [List.Nodup.erase_eq_filter (List.nodup_range.filter _) i, List.filter_filter]
          apply List.filter_congr
          intro x _
          rw [hgs]
          by_cases hx : x = i <;> simp [hx]
        rw [h6, List.length_erase_of_mem (List.mem_filter.2 ⟨List.mem_range.2 hin, by simp [hnl2]⟩)]
        omega
      · intro j hj e he
        rw [getD_set listed i _ (by omega)] at hj ⊢
        by_cases hji : j = i
        · subst hji; rw [hed e he]; simp
        · simp only [hji, decide_false, Bool.false_or] at hj
          rw [hcl j hj e he]; simp
      · refine ((h5.ext hx).put o.dst (fun t e => by rw [h1]; exact dstLt_spec hdl t e) hv).congr fun t => ?_
        rw [hlookC t, hdst i o ho]
    unfold wpOp
    rw [ho]
    simp only
    split
    · rename_i hw; rw [if_pos hw] at hres; exact .inl hres
    · rename_i hw; rw [if_neg hw] at hres; exact hres
end Go.Proofs.Ytopmppnnihdnaaa
