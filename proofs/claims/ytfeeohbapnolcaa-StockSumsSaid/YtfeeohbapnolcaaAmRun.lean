/- The abstract machine: one operation, a region in whatever order. -/
import Derived.Test.YtfeeohbapnolcaaAm
namespace Go.Proofs.Ytfeeohbapnolcaa
set_option linter.unusedVariables false
set_option linter.unusedSimpArgs false
open Go.RowKit
/-- the slots that an operation looks at -/
def LRep (β : List Hd) (w : World) (a : Act) (σ : Sl) (l : List Tmp) : Prop := ∀ t, t ∈ l → ∀ X, look σ t = some X → ∃ u, a.tmps[t]? = some u ∧ VRep β w u X
theorem LRep.of {β : List Hd} {w : World} {a : Act} {σ : Sl} {l : List Tmp} (h : SRep β w a σ) : LRep β w a σ l := fun t _ X hX => h t X hX
/-- an operation, of which its result is known, and what becomes of the things that may be written -/
def OpStep (P : Program) (ops : Array Oper) (o : Oper) (σ : Sl) (H : List AO) (X : AV) (H' : List AO) : Prop :=
  ∀ (a : Act) (W : World) (β : List Hd), HRel β H W → LRep β W a σ (o.looksAt ops) → ∀ (K : Act → World → Prop) (Q : Exit → Act → World → Prop),
    (∀ v W' β', Ext β W β' W' → HRel β' H' W' → VRep β' W' v X → K (a.put o.dst v) W') →
    if Region.wanted o (yielded ops a.tmps) = true then Oper.wp P o a W K Q else K (a.put o.dst undef) W
inductive Kd where
  | pure | read | write | rd | new
deriving DecidableEq
def StepK (P : Program) (ops : Array Oper) : Kd → Oper → Sl → List AO → AV → List AO → Prop
  | .pure, o, σ, H, X, H' => H' = H ∧ ∀ G, OpStep P ops o σ G X G
  | .read, o, σ, H, X, H' => H' = H ∧ OpStep P ops o σ H X H
  | .write, o, σ, H, X, H' => OpStep P ops o σ H X H'
  | .rd, o, σ, H, X, H' => H' = H ∧ ∀ E, OpStep P ops o σ (H ++ E) X (H ++ E)
  | .new, o, σ, H, X, H' => (∃ E, H' = H ++ E) ∧ OpStep P ops o σ H X H'
theorem StepK.op {P : Program} {ops : Array Oper} {k : Kd} {o : Oper} {σ : Sl} {H H' : List AO} {X : AV} (h : StepK P ops k o σ H X H') : OpStep P ops o σ H X H' := by
  cases k with
  | pure => obtain ⟨rfl, h⟩ := h; exact h _
  | read => obtain ⟨rfl, h⟩ := h; exact h
  | write => exact h
  | rd => obtain ⟨rfl, h⟩ := h; have h1 := h []; rwa [List.append_nil] at h1
  | new => exact h.2
def dstLt (n : Nat) : Option Tmp → Bool
  | none => true
  | some d => Nat.blt d n
theorem dstLt_spec {n : Nat} {d : Option Tmp} (h : dstLt n d = true) : ∀ t, d = some t → t < n := by
  intro t e; subst e; exact Nat.lt_of_lt_of_le (Nat.lt_of_succ_le (Nat.le_of_ble_eq_true h)) (Nat.le_refl _)
/-- operations one by one, in the order of the text -/
def ARun (P : Program) (ops : Array Oper) (n : Nat) (Q : List Kd → Sl → List AO → Prop) : List Oper → List Kd → Sl → List AO → Prop
  | [], ks, σ, H => Q ks σ H
  | o :: l, ks, σ, H => ∃ k X H', dstLt n o.dst = true ∧ StepK P ops k o σ H X H' ∧ ARun P ops n Q l (ks ++ [k]) (putS σ o.dst X) H'
/-- the region in its text's order -/
theorem run_list {P : Program} {ops : Array Oper} {n : Nat} {QA : List Kd → Sl → List AO → Prop} {Q : Exit → Act → World → Prop} : ∀ (l : List Oper) (ks : List Kd) (σ : Sl) (H : List AO) (a : Act) (W : World) (β : List Hd),
    ARun P ops n QA l ks σ H → a.tmps.size = n → HRel β H W → SRep β W a σ →
    (∀ ks' σ' H' a' W' β', QA ks' σ' H' → a'.tmps.size = n → a'.defers = a.defers → Ext β W β' W' → HRel β' H' W' → SRep β' W' a' σ' → Q .normal a' W') → wpList P ops Q l a W := by
  intro l
  induction l with
  | nil => intro ks σ H a W β h hn hH hs hQ; exact hQ ks σ H a W β h hn rfl (Ext.refl _ _) hH hs
  | cons o l ih =>
    intro ks σ H a W β h hn hH hs hQ
    obtain ⟨k, X, H', hd, hst, hr⟩ := h
    refine wpList_step fun K hK => ?_
    refine hst.op a W β hH (LRep.of hs) K Q fun v W' β' hx hH' hv => hK _ _ ?_
    refine ih _ _ _ (a.put o.dst v) W' β' hr (by rw [put_size]; exact hn) hH' ((hs.ext hx).put o.dst (fun t e => by rw [hn]; exact dstLt_spec hd t e) hv) ?_
    intro ks' σ' H'' a' W'' β'' q1 q2 q3 q4 q5 q6
    exact hQ ks' σ' H'' a' W'' β'' q1 q2 (by rw [q3, put_def]) (hx.trans q4) q5 q6
/-- what a run holds, by the number of the operation -/
theorem run_seqs {P : Program} {ops : Array Oper} {n : Nat} {QA : List Kd → Sl → List AO → Prop} : ∀ (l : List Oper) (ks : List Kd) (σ : Sl) (H : List AO), ARun P ops n QA l ks σ H →
    ∃ (Xs : Nat → AV) (σs : Nat → Sl) (Hs : Nat → List AO) (kk : Nat → Kd), σs 0 = σ ∧ Hs 0 = H ∧
      (∀ (i : Nat) (o : Oper), l[i]? = some o → dstLt n o.dst = true ∧ StepK P ops (kk i) o (σs i) (Hs i) (Xs i) (Hs (i + 1)) ∧ σs (i + 1) = putS (σs i) o.dst (Xs i)) ∧
      QA (ks ++ (List.range l.length).map kk) (σs l.length) (Hs l.length) := by
  intro l
  induction l with
  | nil => intro ks σ H h; exact ⟨fun _ => .raw undef, fun _ => σ, fun _ => H, fun _ => .pure, rfl, rfl, fun i o h => by simp at h, by have h' : QA ks σ H := h; simpa using h'⟩
  | cons o l ih =>
    intro ks σ H h
    obtain ⟨k, X, H', hd, hst, hr⟩ := h
    obtain ⟨Xs, σs, Hs, kk, h1, h2, h3, h4⟩ := ih _ _ _ hr
    refine ⟨fun i => match i with | 0 => X | i + 1 => Xs i, fun i => match i with | 0 => σ | i + 1 => σs i, fun i => match i with | 0 => H | i + 1 => Hs i, fun i => match i with | 0 => k | i + 1 => kk i, rfl, rfl, ?_, ?_⟩
    · intro i o' hi
      cases i with
      | zero =>
        simp at hi
        subst hi
        exact ⟨hd, by show StepK P ops k o σ H X (Hs 0); rw [h2]; exact hst, h1⟩
      | succ i => exact h3 i o' (by simpa using hi)
    · have e : (List.range (o :: l).length).map (fun i => match i with | 0 => k | i + 1 => kk i) = k :: (List.range l.length).map kk := by
        rw [List.length_cons, List.range_succ_eq_map, List.map_cons, List.map_map]
        rfl
      rw [e]
      simpa using h4
/-- two operations, one of which writes what the other one sees, come one behind the other -/
def kdApart (x y : Kd) : Bool := match x, y with | .pure, _ => true | _, .pure => true | .read, .read => true | .read, .rd => true | .rd, .read => true | .rd, .rd => true | .rd, .new => true | _, _ => false
def okKd (ops : Array Oper) (ks : List Kd) : Bool :=
  let m := rgM ops ops.size
  (List.range ops.size).all fun i => (List.range i).all fun j => kdApart (ks.getD j .pure) (ks.getD i .pure) || (m.getD i 0).testBit j
section
variable (Xs : Nat → AV) (dst : Nat → Option Tmp) (Hs : Nat → List AO) (wr : Nat → Bool) (sel : Nat → Bool)
def selS (σ0 : Sl) : Nat → Sl
  | 0 => σ0
  | k + 1 => if sel k = true then putS (selS σ0 k) (dst k) (Xs k) else selS σ0 k
def selH (H0 : List AO) : Nat → List AO
  | 0 => H0
  | k + 1 => if (sel k && wr k) = true then Hs (k + 1) else selH H0 k
end
theorem selS_succ (Xs : Nat → AV) (dst : Nat → Option Tmp) (sel : Nat → Bool) (σ0 : Sl) (k : Nat) : selS Xs dst sel σ0 (k + 1) = if sel k = true then putS (selS Xs dst sel σ0 k) (dst k) (Xs k) else selS Xs dst sel σ0 k := rfl
theorem selH_succ (Hs : Nat → List AO) (wr sel : Nat → Bool) (H0 : List AO) (k : Nat) : selH Hs wr sel H0 (k + 1) = if (sel k && wr k) = true then Hs (k + 1) else selH Hs wr sel H0 k := rfl
theorem SRep.congr {β : List Hd} {w : World} {a : Act} {σ σ' : Sl} (h : SRep β w a σ) (e : ∀ t, look σ' t = look σ t) : SRep β w a σ' := fun t X ht => h t X (by rw [← e]; exact ht)
def isW : Kd → Bool | .write => true | .new => true | _ => false
theorem kdA1 {x y : Kd} (h : kdApart x y = true) (hx : x ≠ .pure) (hr : x ≠ .rd) : isW y = false := by cases x <;> cases y <;> first | rfl | exact absurd rfl hx | exact absurd rfl hr | cases h
theorem kdA3 {y : Kd} (h : kdApart .rd y = true) (hw : isW y = true) : y = .new := by
  cases y with
  | new => rfl
  | write => cases h
  | pure => cases hw
  | read => cases hw
  | rd => cases hw
theorem kdA4 {x : Kd} (hw : isW x = true) : kdApart x .new = false := by
  cases x with
  | new => rfl
  | write => rfl
  | pure => cases hw
  | read => cases hw
  | rd => cases hw
theorem kdA2 {x y : Kd} (h : kdApart x y = true) (hx : y ≠ .pure) : isW x = false := by cases x <;> cases y <;> first | rfl | exact absurd rfl hx | cases h
set_option maxHeartbeats 1000000 in
theorem run_any {P : Program} {ops : Array Oper} {n : Nat} {Q : Exit → Act → World → Prop} (hok : rgOk ops = true) (Xs : Nat → AV) (σs : Nat → Sl) (Hs : Nat → List AO) (kk : Nat → Kd)
    (hkd : okKd ops ((List.range ops.size).map kk) = true)
    (hst : ∀ (i : Nat) (o : Oper), ops[i]? = some o → dstLt n o.dst = true ∧ StepK P ops (kk i) o (σs i) (Hs i) (Xs i) (Hs (i + 1)) ∧ σs (i + 1) = putS (σs i) o.dst (Xs i))
    (β0 : List Hd) (W0 : World) (D : List Deferred)
    (hQ : ∀ a W β, a.tmps.size = n → a.defers = D → Ext β0 W0 β W → HRel β (Hs ops.size) W → SRep β W a (σs ops.size) → Q .normal a W) :
    ∀ (fuel : Nat) (listed : Array Bool) (a : Act) (W : World) (β : List Hd), listed.size = ops.size →
      fuel = ((List.range ops.size).filter fun j => !listed.getD j false).length →
      (∀ i, listed.getD i false = true → ∀ e, e ∈ rgEdges ops i → listed.getD e false = true) →
      a.tmps.size = n → a.defers = D → Ext β0 W0 β W → HRel β (selH Hs (fun j => isW (kk j)) (fun j => listed.getD j false) (Hs 0) ops.size) W →
      SRep β W a (selS Xs (rgDst ops) (fun j => listed.getD j false) (σs 0) ops.size) → wpAny P .any ops Q fuel listed a W := by
  unfold rgOk at hok
  unfold okKd at hkd
  simp only [Bool.and_eq_true, List.all_eq_true, List.mem_range, Bool.or_eq_true, decide_eq_true_eq] at hok hkd
  obtain ⟨_, hok⟩ := hok
  have hdst : ∀ i o, ops[i]? = some o → rgDst ops i = o.dst := fun i o ho => by simp [rgDst, ho]
  have hop : ∀ i, i < ops.size → ∃ o, ops[i]? = some o := fun i hi => ⟨_, Array.getElem?_eq_getElem hi⟩
  have hkk : ∀ i, i < ops.size → ((List.range ops.size).map kk).getD i .pure = kk i := by
    intro i hi
    rw [List.getD, List.getElem?_map, List.getElem?_range hi]; rfl
  have hsame : ∀ i, i < ops.size → isW (kk i) = false → Hs (i + 1) = Hs i := by
    intro i hi hw
    obtain ⟨o, ho⟩ := hop i hi
    have h1 := (hst i o ho).2.1
    cases hk : kk i with
    | pure => rw [hk] at h1; exact h1.1
    | read => rw [hk] at h1; exact h1.1
    | write => rw [hk] at hw; cases hw
    | rd => rw [hk] at h1; exact h1.1
    | new => rw [hk] at hw; cases hw
  have hput : ∀ i, i < ops.size → σs (i + 1) = putS (σs i) (rgDst ops i) (Xs i) := by
    intro i hi
    obtain ⟨o, ho⟩ := hop i hi
    rw [hdst i o ho]; exact (hst i o ho).2.2
  -- nothing left
  have hdone : ∀ (listed : Array Bool), listed.size = ops.size → Region.ready .any ops listed = [] → ∀ i, i < ops.size → listed.getD i false = true := by
    intro listed hsz hr i
    induction i using Nat.strongRecOn with
    | _ i ih =>
      intro hi
      cases hl : listed.getD i false with
      | true => rfl
      | false =>
        exfalso
        have hm : i ∈ Region.ready .any ops listed := by
          unfold Region.ready
          rw [List.mem_filter]
          refine ⟨List.mem_range.2 hi, ?_⟩
          have h1 : listed.getD i true = false := by
            rw [Array.getD_eq_getD_getElem?] at hl ⊢
            rw [Array.getElem?_eq_getElem (by omega)] at hl ⊢
            exact hl
          rw [h1, Array.getElem?_eq_getElem hi]
          simp only [Bool.not_false, Bool.true_and, Option.map_some, Option.getD_some]
          rw [Array.all_eq_true_iff_forall_mem]
          intro e he
          by_cases hb : Region.binds .any e = true
          · have hmem : e.on ∈ rgEdges ops i := by
              unfold rgEdges; rw [Array.getElem?_eq_getElem hi]
              exact List.mem_map.2 ⟨e, List.mem_filter.2 ⟨by simpa using he, hb⟩, rfl⟩
            have hlt := (hok i hi).1 _ hmem
            simp [ih e.on hlt (by omega)]
          · simp [hb]
        rw [hr] at hm
        cases hm
  have hfin : ∀ (listed : Array Bool) (a : Act) (W : World) (β : List Hd), (∀ i, i < ops.size → listed.getD i false = true) →
      a.tmps.size = n → a.defers = D → Ext β0 W0 β W → HRel β (selH Hs (fun j => isW (kk j)) (fun j => listed.getD j false) (Hs 0) ops.size) W →
      SRep β W a (selS Xs (rgDst ops) (fun j => listed.getD j false) (σs 0) ops.size) → Q .normal a W := by
    intro listed a W β hall h1 h2 h3 h4 h5
    have e1 : ∀ k, k ≤ ops.size → selH Hs (fun j => isW (kk j)) (fun j => listed.getD j false) (Hs 0) k = Hs k := by
      intro k
      induction k with
      | zero => intro _; rfl
      | succ k ih =>
        intro hk
        unfold selH
        rw [hall k (by omega), Bool.true_and]
        cases hw : isW (kk k) with
        | true => rw [if_pos rfl]
        | false => rw [if_neg (by simp), ih (by omega)]; exact (hsame k (by omega) hw).symm
    have e2 : ∀ k, k ≤ ops.size → selS Xs (rgDst ops) (fun j => listed.getD j false) (σs 0) k = σs k := by
      intro k
      induction k with
      | zero => intro _; rfl
      | succ k ih =>
        intro hk
        unfold selS
        rw [hall k (by omega), if_pos rfl, ih (by omega), hput k (by omega)]
    rw [e1 _ (Nat.le_refl _)] at h4
    rw [e2 _ (Nat.le_refl _)] at h5
    exact hQ a W β h1 h2 h3 h4 h5
  intro fuel
  induction fuel with
  | zero =>
    intro listed a W β hsz hc hcl h1 h2 h3 h4 h5
    have hall : ∀ i, i < ops.size → listed.getD i false = true := by
      intro i hi
      cases hx : listed.getD i false with
      | true => rfl
      | false =>
        have hm : i ∈ (List.range ops.size).filter fun j => !listed.getD j false := List.mem_filter.2 ⟨List.mem_range.2 (by omega), by simp [hx]⟩
        have := List.length_pos_of_mem hm
        omega
    refine ⟨?_, hfin listed a W β hall h1 h2 h3 h4 h5⟩
    unfold Region.ready
    rw [List.filter_eq_nil_iff]
    intro i hi
    have hlt := List.mem_range.1 hi
    have h6 := hall i hlt
    rw [Array.getD_eq_getD_getElem?, Array.getElem?_eq_getElem (by omega)] at h6
    have : listed.getD i true = true := by
      rw [Array.getD_eq_getD_getElem?, Array.getElem?_eq_getElem (by omega)]; exact h6
    simp [this]
  | succ fuel ih =>
    intro listed a W β hsz hc hcl h1 h2 h3 h4 h5
    refine ⟨fun hr => hfin listed a W β (hdone listed hsz hr) h1 h2 h3 h4 h5, fun i hi => ?_⟩
    unfold Region.ready at hi
    rw [List.mem_filter, List.mem_range] at hi
    obtain ⟨hin, hi⟩ := hi
    obtain ⟨o, ho⟩ := hop i hin
    rw [ho] at hi
    simp only [Option.map_some, Option.getD_some, Bool.and_eq_true, Bool.not_eq_true'] at hi
    obtain ⟨hnl, hrd⟩ := hi
    have hnl2 : listed.getD i false = false := by
      rw [Array.getD_eq_getD_getElem?] at hnl ⊢
      rw [Array.getElem?_eq_getElem (by omega)] at hnl ⊢
      exact hnl
    rw [Array.all_eq_true_iff_forall_mem] at hrd
    have hed : ∀ e, e ∈ rgEdges ops i → listed.getD e false = true := by
      intro e he
      unfold rgEdges at he
      rw [ho] at he
      obtain ⟨x, hx, rfl⟩ := List.mem_map.1 he
      rw [List.mem_filter] at hx
      have := hrd x (by simpa using hx.1)
      simpa [hx.2] using this
    have hpredl : ∀ j, rgPred ops j i = true → listed.getD j false = true := fun j hj => rgM_sound ops (fun j => listed.getD j false = true) hcl ops.size i j hin hed hj
    have hnopred : ∀ j, j < ops.size → listed.getD j false = true → rgPred ops i j = false := by
      intro j hj hl
      cases hp : rgPred ops i j with
      | false => rfl
      | true =>
        have := rgM_sound ops (fun j => listed.getD j false = true) hcl ops.size j i hj (hcl j hl) hp
        rw [hnl2] at this; cases this
    -- behind: apart
    have hap1 : ∀ k, k < i → listed.getD k false = false → rgApart ops k i = true := by
      intro k hk hl
      rcases (hok i hin).2 k hk with h | h
      · exact h
      · have := hpredl k h; rw [hl] at this; cases this
    have hap2 : ∀ k, i < k → k < ops.size → listed.getD k false = true → rgApart ops i k = true := by
      intro k hk hkn hl
      rcases (hok k hkn).2 i hk with h | h
      · exact h
      · have := hnopred k hkn hl; unfold rgPred at this; rw [h] at this; cases this
    have hlookA : ∀ t, t ∈ o.looksAt ops → look (selS Xs (rgDst ops) (fun j => listed.getD j false) (σs 0) ops.size) t = look (σs i) t := by
      intro t ht
      have e1 : ∀ k, k ≤ i → look (selS Xs (rgDst ops) (fun j => listed.getD j false) (σs 0) k) t = look (σs k) t := by
        intro k
        induction k with
        | zero => intro _; rfl
        | succ k ihk =>
          intro hk
          have hk2 : k < ops.size := by omega
          rw [hput k hk2, look_put]
          show look (if listed.getD k false = true then _ else _) t = _
          cases hl : listed.getD k false with
          | true => rw [if_pos rfl, look_put, ihk (by omega)]
          | false =>
            rw [if_neg (by simp), ihk (by omega)]
            have h6 := hap1 k (by omega) hl
            obtain ⟨ok, hok2⟩ := hop k hk2
            unfold rgApart at h6
            rw [hok2, ho] at h6
            have h7 := (Oper.apart_spec h6).1
            rw [if_neg]
            intro e
            rw [hdst k ok hok2] at e
            exact h7 t e ht
      have e2 : ∀ m, look (selS Xs (rgDst ops) (fun j => listed.getD j false) (σs 0) (i + m)) t = look (selS Xs (rgDst ops) (fun j => listed.getD j false) (σs 0) i) t ∨ ops.size < i + m := by
        intro m
        induction m with
        | zero => exact .inl rfl
        | succ m ihm =>
          rcases ihm with ihm | ihm
          · by_cases hlt : i + m < ops.size
            · left
              rw [← ihm]
              rw [show i + (m + 1) = (i + m) + 1 from rfl, selS_succ]
              cases hl : listed.getD (i + m) false with
              | false => rw [if_neg (by simp)]
              | true =>
                rw [if_pos rfl, look_put]
                refine if_neg ?_
                intro e
                have hm0 : i < i + m := by
                  rcases Nat.eq_zero_or_pos m with h0 | h0
                  · subst h0; rw [Nat.add_zero, hnl2] at hl; cases hl
                  · omega
                have h6 := hap2 _ hm0 hlt hl
                obtain ⟨ok, hok2⟩ := hop _ hlt
                unfold rgApart at h6
                rw [hok2, ho] at h6
                rw [hdst _ ok hok2] at e
                exact (Oper.apart_spec h6).2.2 t e ht
            · right; omega
          · right; omega
      have := e2 (ops.size - i)
      rw [show i + (ops.size - i) = ops.size by omega] at this
      rcases this with h | h
      · rw [h]; exact e1 i (Nat.le_refl _)
      · omega
    have hHbehind : kk i ≠ .pure → kk i ≠ .rd → ∀ k, i < k → k < ops.size → listed.getD k false = true → isW (kk k) = false := by
      intro hp hprd k hk hkn hl
      cases hw : isW (kk k) with
      | false => rfl
      | true =>
        have h6 := hkd k hkn i hk
        rw [hkk i hin, hkk k hkn] at h6
        rcases h6 with h6 | h6
        · rw [kdA1 h6 hp hprd] at hw; cases hw
        · have := hnopred k hkn hl; unfold rgPred at this; rw [h6] at this; cases this
    have hHahead : kk i ≠ .pure → ∀ k, k < i → isW (kk k) = true → listed.getD k false = true := by
      intro hp k hk hw
      have h6 := hkd i hin k hk
      rw [hkk i hin, hkk k (by omega)] at h6
      rcases h6 with h6 | h6
      · rw [kdA2 h6 hp] at hw; cases hw
      · exact hpredl k h6
    have hHe : kk i ≠ .pure → selH Hs (fun j => isW (kk j)) (fun j => listed.getD j false) (Hs 0) i = Hs i := by
      intro hp
      have e1 : ∀ k, k ≤ i → selH Hs (fun j => isW (kk j)) (fun j => listed.getD j false) (Hs 0) k = Hs k := by
        intro k
        induction k with
        | zero => intro _; rfl
        | succ k ihk =>
          intro hk
          show (if (listed.getD k false && isW (kk k)) = true then _ else _) = _
          cases hw : isW (kk k) with
          | true => rw [hHahead hp k (by omega) hw, if_pos (by rfl)]
          | false => rw [Bool.and_false, if_neg (by simp), ihk (by omega)]; exact (hsame k (by omega) hw).symm
      exact e1 i (Nat.le_refl _)
    have hHs : kk i ≠ .pure → kk i ≠ .rd → selH Hs (fun j => isW (kk j)) (fun j => listed.getD j false) (Hs 0) ops.size = Hs i := by
      intro hp hprd
      have e2 : ∀ m, i + m ≤ ops.size → selH Hs (fun j => isW (kk j)) (fun j => listed.getD j false) (Hs 0) (i + m) = Hs i := by
        intro m
        induction m with
        | zero => intro _; exact hHe hp
        | succ m ihm =>
          intro hm
          rw [show i + (m + 1) = (i + m) + 1 from rfl, selH_succ, if_neg, ihm (by omega)]
          intro e
          rw [Bool.and_eq_true] at e
          rcases Nat.eq_zero_or_pos m with h0 | h0
          · subst h0; rw [Nat.add_zero, hnl2] at e; exact absurd e.1 (by simp)
          · have := hHbehind hp hprd (i + m) (by omega) (by omega) e.1
            rw [this] at e; exact absurd e.2 (by simp)
      have := e2 (ops.size - i) (by omega)
      rw [show i + (ops.size - i) = ops.size by omega] at this
      exact this
    have hHr : kk i = .rd → ∃ E, selH Hs (fun j => isW (kk j)) (fun j => listed.getD j false) (Hs 0) ops.size = Hs i ++ E := by
      intro hp
      have hnew : ∀ k, i < k → k < ops.size → listed.getD k false = true → isW (kk k) = true → kk k = .new := by
        intro k hk hkn hl hw
        have h6 := hkd k hkn i hk
        rw [hkk i hin, hkk k hkn, hp] at h6
        rcases h6 with h6 | h6
        · exact kdA3 h6 hw
        · have := hnopred k hkn hl; unfold rgPred at this; rw [h6] at this; cases this
      have hgrow : ∀ k, k < ops.size → kk k = .new → ∃ E, Hs (k + 1) = Hs k ++ E := by
        intro k hk hn
        obtain ⟨o', ho'⟩ := hop k hk
        have h1 := (hst k o' ho').2.1
        rw [hn] at h1
        exact h1.1
      have hbefore : ∀ k, i < k → k < ops.size → listed.getD k false = true → isW (kk k) = true → ∀ m, i + m ≤ k → ∃ E, Hs (i + m) = Hs i ++ E := by
        intro k hk hkn hl hw m
        induction m with
        | zero => intro _; exact ⟨[], by rw [List.append_nil]; rfl⟩
        | succ m ihm =>
          intro hm
          obtain ⟨E, hE⟩ := ihm (by omega)
          rw [show i + (m + 1) = (i + m) + 1 from rfl]
          cases hj : isW (kk (i + m)) with
          | false => rw [hsame _ (by omega) hj]; exact ⟨E, hE⟩
          | true =>
            have h0 : 0 < m := by
              rcases Nat.eq_zero_or_pos m with h0 | h0
              · subst h0; rw [Nat.add_zero, hp] at hj; cases hj
              · exact h0
            have hlj : listed.getD (i + m) false = true := by
              have h6 := hkd k hkn (i + m) (by omega)
              rw [hkk _ (by omega), hkk k hkn, hnew k hk hkn hl hw, kdA4 hj] at h6
              rcases h6 with h6 | h6
              · cases h6
              · exact rgM_sound ops (fun j => listed.getD j false = true) hcl ops.size k (i + m) hkn (hcl k hl) h6
            obtain ⟨E', hE'⟩ := hgrow _ (by omega) (hnew (i + m) (by omega) (by omega) hlj hj)
            exact ⟨E ++ E', by rw [hE', hE, List.append_assoc]⟩
      have e2 : ∀ m, i + m ≤ ops.size → ∃ E, selH Hs (fun j => isW (kk j)) (fun j => listed.getD j false) (Hs 0) (i + m) = Hs i ++ E := by
        intro m
        induction m with
        | zero => intro _; exact ⟨[], by rw [List.append_nil]; exact hHe (by rw [hp]; simp)⟩
        | succ m ihm =>
          intro hm
          rw [show i + (m + 1) = (i + m) + 1 from rfl, selH_succ]
          by_cases e : (listed.getD (i + m) false && isW (kk (i + m))) = true
          · rw [if_pos e]
            rw [Bool.and_eq_true] at e
            rcases Nat.eq_zero_or_pos m with h0 | h0
            · subst h0; rw [Nat.add_zero, hnl2] at e; exact absurd e.1 (by simp)
            · obtain ⟨E, hE⟩ := hbefore (i + m) (by omega) (by omega) e.1 e.2 m (Nat.le_refl _)
              obtain ⟨E', hE'⟩ := hgrow _ (by omega) (hnew (i + m) (by omega) (by omega) e.1 e.2)
              exact ⟨E ++ E', by rw [hE', hE, List.append_assoc]⟩
          · rw [if_neg e]; exact ihm (by omega)
      have := e2 (ops.size - i) (by omega)
      rw [show i + (ops.size - i) = ops.size by omega] at this
      exact this
    obtain ⟨hdl, hstep, _⟩ := hst i o ho
    -- the step itself, at what is there now
    have hstep2 : OpStep P ops o (σs i) (selH Hs (fun j => isW (kk j)) (fun j => listed.getD j false) (Hs 0) ops.size) (Xs i)
        (selH Hs (fun j => isW (kk j)) (fun j => (listed.setIfInBounds i true).getD j false) (Hs 0) ops.size) := by
      have hgs : ∀ j, (listed.setIfInBounds i true).getD j false = (decide (j = i) || listed.getD j false) := fun j => getD_set listed i j (by omega)
      have hNW : isW (kk i) = false → selH Hs (fun j => isW (kk j)) (fun j => (listed.setIfInBounds i true).getD j false) (Hs 0) ops.size = selH Hs (fun j => isW (kk j)) (fun j => listed.getD j false) (Hs 0) ops.size := by
        intro hw
        have : ∀ k, selH Hs (fun j => isW (kk j)) (fun j => (listed.setIfInBounds i true).getD j false) (Hs 0) k = selH Hs (fun j => isW (kk j)) (fun j => listed.getD j false) (Hs 0) k := by
          intro k
          induction k with
          | zero => rfl
          | succ k ihk =>
            show (if ((listed.setIfInBounds i true).getD k false && isW (kk k)) = true then _ else _) = (if (listed.getD k false && isW (kk k)) = true then _ else _)
            rw [hgs, ihk]
            by_cases e : k = i
            · subst e; rw [hw]; simp
            · simp [e]
        exact this _
      cases hk : kk i with
      | pure =>
        rw [hk] at hstep
        rw [hNW (by rw [hk]; rfl)]
        exact hstep.2 _
      | read =>
        rw [hk] at hstep
        rw [hNW (by rw [hk]; rfl), hHs (by rw [hk]; simp) (by rw [hk]; simp)]
        exact hstep.2
      | rd =>
        rw [hk] at hstep
        rw [hNW (by rw [hk]; rfl)]
        obtain ⟨E, hE⟩ := hHr hk
        rw [hE]
        exact hstep.2 E
      | write =>
        rw [hk] at hstep
        rw [hHs (by rw [hk]; simp) (by rw [hk]; simp)]
        have e : selH Hs (fun j => isW (kk j)) (fun j => (listed.setIfInBounds i true).getD j false) (Hs 0) ops.size = Hs (i + 1) := by
          have e2 : ∀ m, i + 1 + m ≤ ops.size → selH Hs (fun j => isW (kk j)) (fun j => (listed.setIfInBounds i true).getD j false) (Hs 0) (i + 1 + m) = Hs (i + 1) := by
            intro m
            induction m with
            | zero =>
              intro _
              show (if ((listed.setIfInBounds i true).getD i false && isW (kk i)) = true then _ else _) = _
              rw [hgs, hk]; simp [isW]
            | succ m ihm =>
              intro hm
              rw [show i + 1 + (m + 1) = (i + 1 + m) + 1 from rfl, selH_succ, if_neg, ihm (by omega)]
              intro e
              rw [Bool.and_eq_true, hgs] at e
              have h7 : listed.getD (i + 1 + m) false = true := by
                have := e.1
                rw [decide_eq_false (by omega), Bool.false_or] at this
                exact this
              have := hHbehind (by rw [hk]; simp) (by rw [hk]; simp) (i + 1 + m) (by omega) (by omega) h7
              rw [this] at e; exact absurd e.2 (by simp)
          have := e2 (ops.size - (i + 1)) (by omega)
          rw [show i + 1 + (ops.size - (i + 1)) = ops.size by omega] at this
          exact this
        rw [e]; exact hstep
      | new =>
        rw [hk] at hstep
        rw [hHs (by rw [hk]; simp) (by rw [hk]; simp)]
        have e : selH Hs (fun j => isW (kk j)) (fun j => (listed.setIfInBounds i true).getD j false) (Hs 0) ops.size = Hs (i + 1) := by
          have e2 : ∀ m, i + 1 + m ≤ ops.size → selH Hs (fun j => isW (kk j)) (fun j => (listed.setIfInBounds i true).getD j false) (Hs 0) (i + 1 + m) = Hs (i + 1) := by
            intro m
            induction m with
            | zero =>
              intro _
              show (if ((listed.setIfInBounds i true).getD i false && isW (kk i)) = true then _ else _) = _
              rw [hgs, hk]; simp [isW]
            | succ m ihm =>
              intro hm
              rw [show i + 1 + (m + 1) = (i + 1 + m) + 1 from rfl, selH_succ, if_neg, ihm (by omega)]
              intro e
              rw [Bool.and_eq_true, hgs] at e
              have h7 : listed.getD (i + 1 + m) false = true := by
                have := e.1
                rw [decide_eq_false (by omega), Bool.false_or] at this
                exact this
              have := hHbehind (by rw [hk]; simp) (by rw [hk]; simp) (i + 1 + m) (by omega) (by omega) h7
              rw [this] at e; exact absurd e.2 (by simp)
          have := e2 (ops.size - (i + 1)) (by omega)
          rw [show i + 1 + (ops.size - (i + 1)) = ops.size by omega] at this
          exact this
        rw [e]; exact hstep.2
    -- behind it
    have hlookC : ∀ t, look (selS Xs (rgDst ops) (fun j => (listed.setIfInBounds i true).getD j false) (σs 0) ops.size) t = look (putS (selS Xs (rgDst ops) (fun j => listed.getD j false) (σs 0) ops.size) (rgDst ops i) (Xs i)) t := by
      intro t
      have hgs : ∀ j, (listed.setIfInBounds i true).getD j false = (decide (j = i) || listed.getD j false) := fun j => getD_set listed i j (by omega)
      have e1 : ∀ k, k ≤ i → selS Xs (rgDst ops) (fun j => (listed.setIfInBounds i true).getD j false) (σs 0) k = selS Xs (rgDst ops) (fun j => listed.getD j false) (σs 0) k := by
        intro k
        induction k with
        | zero => intro _; rfl
        | succ k ihk =>
          intro hk
          show (if (listed.setIfInBounds i true).getD k false = true then _ else _) = (if listed.getD k false = true then _ else _)
          rw [hgs, ihk (by omega), decide_eq_false (by omega), Bool.false_or]
      have e2 : ∀ m, i + 1 + m ≤ ops.size → look (selS Xs (rgDst ops) (fun j => (listed.setIfInBounds i true).getD j false) (σs 0) (i + 1 + m)) t = look (putS (selS Xs (rgDst ops) (fun j => listed.getD j false) (σs 0) (i + 1 + m)) (rgDst ops i) (Xs i)) t := by
        intro m
        induction m with
        | zero =>
          intro _
          show look (if (listed.setIfInBounds i true).getD i false = true then _ else _) t = look (putS (if listed.getD i false = true then _ else _) _ _) t
          rw [hgs, hnl2, decide_eq_true rfl, Bool.true_or, if_pos rfl, if_neg (by simp), e1 i (Nat.le_refl _)]
        | succ m ihm =>
          intro hm
          rw [show i + 1 + (m + 1) = (i + 1 + m) + 1 from rfl, selS_succ, selS_succ, hgs, decide_eq_false (by omega), Bool.false_or]
          have ihm := ihm (by omega)
          cases hl : listed.getD (i + 1 + m) false with
          | false => rw [if_neg (by simp), if_neg (by simp)]; exact ihm
          | true =>
            rw [if_pos rfl, if_pos rfl, look_put, ihm, look_put, look_put, look_put]
            have h6 := hap2 _ (by omega) (by omega) hl
            obtain ⟨ok, hok2⟩ := hop (i + 1 + m) (by omega)
            unfold rgApart at h6
            rw [hok2, ho] at h6
            have h7 := (Oper.apart_spec h6).2.1
            rw [hdst _ ok hok2, hdst i o ho]
            by_cases c1 : ok.dst = some t
            · rw [if_pos c1]
              by_cases c2 : o.dst = some t
              · exact absurd c1 (h7 t c2)
              · rw [if_neg c2, if_pos c1]
            · rw [if_neg c1, if_neg c1]
      have := e2 (ops.size - (i + 1)) (by omega)
      rw [show i + 1 + (ops.size - (i + 1)) = ops.size by omega] at this
      exact this
    have hlr : LRep β W a (σs i) (o.looksAt ops) := fun t ht X hX => h5 t X (by rw [hlookA t ht]; exact hX)
    have hres := hstep2 a W β h4 hlr (wpAny P .any ops Q fuel (listed.setIfInBounds i true)) Q fun v W' β' hx hH' hv => by
      refine ih (listed.setIfInBounds i true) (a.put o.dst v) W' β' (by simpa using hsz) ?_ ?_ (by rw [put_size]; exact h1) (by rw [put_def]; exact h2) (h3.trans hx) hH' ?_
      · have hgs : ∀ j, (listed.setIfInBounds i true).getD j false = (decide (j = i) || listed.getD j false) := fun j => getD_set listed i j (by omega)
        have h6 : ((List.range ops.size).filter fun j => !(listed.setIfInBounds i true).getD j false) = ((List.range ops.size).filter fun j => !listed.getD j false).erase i := by
          rw [List.Nodup.erase_eq_filter (List.nodup_range.filter _) i, List.filter_filter]
          apply List.filter_congr
          intro x _
          rw [hgs]
          by_cases hx : x = i <;> simp [hx]
        rw [h6, List.length_erase_of_mem (List.mem_filter.2 ⟨List.mem_range.2 hin, by simp [hnl2]⟩)]
        omega
      · intro j hj e he
        rw [getD_set listed i _ (by omega)] at hj ⊢
        by_cases hji : j = i
        · subst hji; rw [hed e he]; simp
        · simp only [hji, decide_false, Bool.false_or] at hj
          rw [hcl j hj e he]; simp
      · refine ((h5.ext hx).put o.dst (fun t e => by rw [h1]; exact dstLt_spec hdl t e) hv).congr fun t => ?_
        rw [hlookC t, hdst i o ho]
    unfold wpOp
    rw [ho]
    simp only
    split
    · rename_i hw; rw [if_pos hw] at hres; exact .inl hres
    · rename_i hw; rw [if_neg hw] at hres; exact hres
end Go.Proofs.Ytfeeohbapnolcaa
