/- A region that draws its order, operation by operation: in the order of the text alone, each one in whatever world. -/
import Derived.WalkKit
import Derived.Orders
import Derived.Below
import Derived.StillTail
namespace Go.Proofs.Ytopmppnnihdnaaa
set_option linter.unusedVariables false
set_option linter.unusedSimpArgs false
open Go.RowKit

/-- the operations that must come ahead -/
def rgEdges (ops : Array Oper) (i : Nat) : List Nat := match ops[i]? with | some o => (o.after.toList.filter (Region.binds .any)).map (·.on) | none => []
def rgMask (acc : List Nat) (l : List Nat) : Nat := l.foldl (fun s e => s ||| (2 ^ e ||| acc.getD e 0)) 0
/-- for each operation, as a number's bits, what comes ahead of it in any order -/
def rgM (ops : Array Oper) : Nat → List Nat
  | 0 => []
  | k + 1 => let m := rgM ops k; m ++ [rgMask m (rgEdges ops k)]
def rgDst (ops : Array Oper) (i : Nat) : Option Tmp := (ops[i]?).bind (·.dst)
def rgPred (ops : Array Oper) (j i : Nat) : Bool := ((rgM ops ops.size).getD i 0).testBit j
def rgApart (ops : Array Oper) (j i : Nat) : Bool := match ops[j]?, ops[i]? with | some x, some y => x.apart ops y | _, _ => true
/-- two operations that name one slot come one behind the other -/
def rgOk (ops : Array Oper) : Bool :=
  let m := rgM ops ops.size
  Region.noSelect ops && (List.range ops.size).all fun i => ((rgEdges ops i).all fun e => decide (e < i)) && (List.range i).all fun j => rgApart ops j i || (m.getD i 0).testBit j
/-- what stands behind the first N comes behind them all, one by one -/
def rgTail (ops : Array Oper) (N : Nat) : Bool :=
  let m := rgM ops ops.size
  decide (N ≤ ops.size) && ((List.range ops.size).all fun i => decide (i < N) || (List.range N).all fun j => (m.getD i 0).testBit j) && Region.seqB .any ops (ops.size - N) N ((List.range ops.size).map fun j => decide (j < N)).toArray
theorem rgMask_bit (acc : List Nat) (j : Nat) : ∀ (l : List Nat) (s : Nat), (l.foldl (fun s e => s ||| (2 ^ e ||| acc.getD e 0)) s).testBit j = true → s.testBit j = true ∨ ∃ e, e ∈ l ∧ (j = e ∨ (acc.getD e 0).testBit j = true) := by
  intro l
  induction l with
  | nil => intro s h; exact .inl h
  | cons e l ih =>
    intro s h
    rw [List.foldl_cons] at h
    rcases ih _ h with h | ⟨x, hx, h⟩
    · rw [Nat.testBit_or, Nat.testBit_or, Bool.or_eq_true, Bool.or_eq_true] at h
      rcases h with h | h | h
      · exact .inl h
      · refine .inr ⟨e, List.mem_cons_self, .inl ?_⟩
        rw [Nat.testBit_two_pow] at h
        have : e = j := by simpa using h
        exact this.symm
      · exact .inr ⟨e, List.mem_cons_self, .inr h⟩
    · exact .inr ⟨x, List.mem_cons_of_mem _ hx, h⟩
theorem rgM_len (ops : Array Oper) (k : Nat) : (rgM ops k).length = k := by
  induction k with
  | zero => rfl
  | succ k ih => show (rgM ops k ++ [_]).length = _; simp [ih]
theorem rgM_sound (ops : Array Oper) (sel : Nat → Prop) (hcl : ∀ i, sel i → ∀ e, e ∈ rgEdges ops i → sel e) :
    ∀ k i j, i < k → (∀ e, e ∈ rgEdges ops i → sel e) → ((rgM ops k).getD i 0).testBit j = true → sel j := by
  intro k
  induction k with
  | zero => intro i j h; omega
  | succ k ih =>
    intro i j hi he hb
    have hm : rgM ops (k + 1) = rgM ops k ++ [rgMask (rgM ops k) (rgEdges ops k)] := rfl
    rw [hm] at hb
    by_cases h : i < k
    · rw [List.getD, List.getElem?_append_left (by rw [rgM_len]; exact h)] at hb
      exact ih i j h he hb
    · obtain rfl : i = k := by omega
      rw [List.getD, List.getElem?_append_right (by rw [rgM_len]; exact Nat.le_refl _), rgM_len, Nat.sub_self] at hb
      rcases rgMask_bit _ j _ _ hb with h0 | ⟨e, hmem, h0 | h0⟩
      · simp at h0
      · subst h0; exact he _ hmem
      · by_cases hek : e < i
        · exact ih e j hek (hcl e (he e hmem)) h0
        · rw [List.getD, List.getElem?_eq_none (by rw [rgM_len]; omega)] at h0
          simp at h0

/-- what an operation gives: a value, or one of which something is known -/
inductive RV where
  | det (v : Value)
  | rel (V : Value → World → Prop)
def RV.val (env : Nat → Value) (i : Nat) : RV → Value | .det v => v | .rel _ => env i
def RV.ok (env : Nat → Value) (i : Nat) (W : World) : RV → Prop | .det _ => True | .rel V => V (env i) W
def RV.takes : RV → Value → World → Prop | .det u, v, _ => v = u | .rel V, v, W => V v W
def RV.mono : RV → Prop | .det _ => True | .rel V => ∀ v W W', V v W → Below W.heap.size W W' → V v W'
def rgFact (env : Nat → Value) (i : Nat) : RV → List (Nat × (World → Prop)) | .det _ => [] | .rel V => [(i, V (env i))]
def onlyOut (Q : Exit → Act → World → Prop) (e : Exit) (a : Act) (w : World) : Prop := e = .outgrown ∧ Q .outgrown a w
section
variable (P : Program) (ops : Array Oper) (Q : Exit → Act → World → Prop) (w0 : World) (env : Nat → Value) (N : Nat)
def rgStep (i : Nat) (R : RV) (a : Act) (F : List (Nat × (World → Prop))) : Prop :=
  ∀ (W : World) (K : Act → World → Prop), Below w0.heap.size w0 W → (∀ x, x ∈ F → rgPred ops x.1 i = true → x.2 W) →
    (∀ v W', Below W.heap.size W W' → R.takes v W' → K (a.put (rgDst ops i) v) W') → wpOp P ops (onlyOut Q) i K a W
def rgo : Nat → List RV → Act → List (Nat × (World → Prop)) → Prop
  | i, [], a, F => i = N ∧ ∀ W, Below w0.heap.size w0 W → (∀ x, x ∈ F → x.2 W) → wpList P ops Q (ops.toList.drop N) a W
  | i, R :: Rs, a, F => R.mono ∧ rgStep P ops Q w0 i R a F ∧ rgo (i + 1) Rs (a.put (rgDst ops i) (R.val env i)) (F ++ rgFact env i R)
end
section
variable {P : Program} {ops : Array Oper} {Q : Exit → Act → World → Prop} {w0 : World}
set_option linter.unusedVariables false in
theorem wpOp_transfer {i : Nat} {a b : Act} {W : World} {K K' : Act → World → Prop} (hsel : Region.noSelect ops = true)
    (hag : ∀ o, ops[i]? = some o → ∀ t, t ∈ o.looksAt ops → b.tmps[t]? = a.tmps[t]?) (hdef : b.defers = a.defers)
    (h : wpOp P ops (onlyOut Q) i K a W) (hK : ∀ v W', K (a.put (rgDst ops i) v) W' → K' (b.put (rgDst ops i) v) W') (hd : ∀ a' W', K a' W' → a'.defers = a.defers) : wpOp P ops Q i K' b W := by
  have hdst : ∀ o, ops[i]? = some o → rgDst ops i = o.dst := fun o ho => by simp [rgDst, ho]
  unfold wpOp at h ⊢
  cases ho : ops[i]? with
  | none =>
    simp only [ho] at h ⊢
    have hn : rgDst ops i = none := by simp [rgDst, ho]
    rw [hn] at hK
    exact hK undef W h
  | some o =>
    simp only [ho] at h ⊢
    have hg := hag o ho
    rw [hdst o ho] at hK
    have hev : execOp b.eval o = execOp a.eval o := by
      refine execOp_congr o (fun cs bb => Region.noSelect_spec hsel i o cs bb ho) fun x hx => ?_
      cases x with
      | tmp t =>
        have := hg t (List.mem_append_left _ (List.mem_filterMap.2 ⟨.tmp t, by simpa using hx, rfl⟩))
        simp [Act.eval, this]
      | _ => rfl
    have hwt : Region.wanted o (yielded ops b.tmps) = Region.wanted o (yielded ops a.tmps) := by
      unfold Region.wanted
      cases hgd : o.guard with
      | none => rfl
      | some gw =>
        obtain ⟨g, want⟩ := gw
        have hy : yielded ops b.tmps g = yielded ops a.tmps g := by
          unfold yielded
          cases ht : (ops[g]?).bind (·.dst) with
          | none => rfl
          | some t =>
            have := hg t (by simp [Oper.looksAt, hgd, ht])
            simp [this]
        simp only [hy]
    have hlo : ∀ {x : Exit → Act → World → Prop}, LetsOut (onlyOut x) → LetsOut x := fun ⟨a, w, h⟩ => ⟨a, w, h.2⟩
    rw [hwt]
    by_cases hw : Region.wanted o (yielded ops a.tmps) = true
    · simp only [hw, if_true] at h ⊢
      rcases h with h | ⟨h1, h2⟩
      · refine .inl ?_
        unfold Oper.wp at h ⊢
        rw [hev]
        generalize (execOp a.eval o).run P W = r at h ⊢
        cases r with
        | ok n W' =>
          cases n <;> simp only [Oper.upon] at h ⊢
          case value v => exact hK v W' h
          case skip => exact hK undef W' h
          case defer d =>
            have := hd _ _ h
            exfalso
            have h2 : (({ a with defers := d :: a.defers } : Act).put o.dst undef).defers = d :: a.defers := by cases o.dst <;> rfl
            rw [h2] at this
            exact absurd this (by simp)
          case enter f args =>
            refine Calls.mono h fun e W'' he => ?_
            cases e with
            | returned v => exact hK v W'' he
            | panicked c => exact absurd he.1 (by simp)
            | outgrown => exact hlo he
          case row row args => exact Rows.mono h fun v W'' hv => hK v W'' hv
        | halt x W' =>
          cases x <;> simp only [Oper.upon] at h ⊢
          case panic v => exact absurd h.1 (by simp)
      · refine .inr ⟨?_, hlo h2⟩
        unfold Oper.asks at h1 ⊢
        rw [hev]; exact h1
    · simp only [hw] at h ⊢
      exact hK undef W h

def rgR (Rs : List RV) (k : Nat) : RV := Rs.getD k (.det undef)
/-- the slots, when those that are chosen have been done -/
def rgActs (ops : Array Oper) (Rs : List RV) (a0 : Act) (env : Nat → Value) (sel : Nat → Bool) : Nat → Act
  | 0 => a0
  | k + 1 => if sel k then (rgActs ops Rs a0 env sel k).put (rgDst ops k) ((rgR Rs k).val env k) else rgActs ops Rs a0 env sel k
def rgFacts (Rs : List RV) (env : Nat → Value) : Nat → List (Nat × (World → Prop))
  | 0 => []
  | k + 1 => rgFacts Rs env k ++ rgFact env k (rgR Rs k)
theorem put_size (a : Act) (d : Option Tmp) (v : Value) : (a.put d v).tmps.size = a.tmps.size := by cases d <;> simp [Act.put]
theorem put_def (a : Act) (d : Option Tmp) (v : Value) : (a.put d v).defers = a.defers := by cases d <;> rfl
theorem acts_size (Rs : List RV) (a0 : Act) (env : Nat → Value) (sel : Nat → Bool) (k : Nat) : (rgActs ops Rs a0 env sel k).tmps.size = a0.tmps.size := by
  induction k with
  | zero => rfl
  | succ k ih => unfold rgActs; split; · rw [put_size, ih]
                 · exact ih
theorem acts_def (Rs : List RV) (a0 : Act) (env : Nat → Value) (sel : Nat → Bool) (k : Nat) : (rgActs ops Rs a0 env sel k).defers = a0.defers := by
  induction k with
  | zero => rfl
  | succ k ih => unfold rgActs; split; · rw [put_def, ih]
                 · exact ih
theorem put_other (a : Act) (d : Option Tmp) (v : Value) (t : Tmp) (h : d ≠ some t) : (a.put d v).tmps[t]? = a.tmps[t]? := by
  cases d with
  | none => rfl
  | some d => have hne : d ≠ t := fun e => h (by rw [e]); simp [Act.put, Array.getElem?_setIfInBounds_ne hne]
theorem put_same (a b : Act) (v : Value) (t : Tmp) (h : a.tmps.size = b.tmps.size) : (a.put (some t) v).tmps[t]? = (b.put (some t) v).tmps[t]? := by
  simp [Act.put, Array.getElem?_setIfInBounds, h]
theorem acts_slot (Rs : List RV) (a0 : Act) (env : Nat → Value) (sel : Nat → Bool) (t : Tmp) (k : Nat) (h : ∀ j, rgDst ops j = some t → (sel j = true ↔ j < k)) :
    ∀ n, (rgActs ops Rs a0 env sel n).tmps[t]? = (rgActs ops Rs a0 env (fun _ => true) (min n k)).tmps[t]? := by
  intro n
  induction n with
  | zero => simp [rgActs]
  | succ n ih =>
    by_cases hd : rgDst ops n = some t
    · by_cases hn : n < k
      · have hs := (h n hd).2 hn
        have e : min (n + 1) k = n + 1 := by omega
        rw [e]
        simp only [rgActs, hs, if_true, hd]
        exact put_same _ _ _ _ (by rw [acts_size, acts_size])
      · have hs : sel n = false := by
          cases hsn : sel n with
          | false => rfl
          | true => exact absurd ((h n hd).1 hsn) hn
        have e : min (n + 1) k = min n k := by omega
        rw [e, ← ih]
        simp [rgActs, hs]
    · have e1 : (rgActs ops Rs a0 env sel (n + 1)).tmps[t]? = (rgActs ops Rs a0 env sel n).tmps[t]? := by
        simp only [rgActs]; split
        · exact put_other _ _ _ _ hd
        · rfl
      rw [e1, ih]
      by_cases hn : n < k
      · have e2 : min (n + 1) k = n + 1 := by omega
        have e3 : min n k = n := by omega
        rw [e2, e3]
        simp only [rgActs, if_true]
        exact (put_other _ _ _ _ hd).symm
      · have e : min (n + 1) k = min n k := by omega
        rw [e]
theorem acts_env (Rs : List RV) (a0 : Act) (env env' : Nat → Value) (sel sel' : Nat → Bool) : ∀ n, (∀ j, j < n → sel j = sel' j ∧ (sel j = true → env j = env' j)) → rgActs ops Rs a0 env sel n = rgActs ops Rs a0 env' sel' n := by
  intro n
  induction n with
  | zero => intro _; rfl
  | succ n ih =>
    intro h
    have hn := h n (by omega)
    have ih' := ih (fun j hj => h j (by omega))
    simp only [rgActs, ← hn.1]
    split
    · rename_i hs
      rw [ih']
      have : (rgR Rs n).val env n = (rgR Rs n).val env' n := by cases rgR Rs n <;> simp [RV.val, hn.2 hs]
      rw [this]
    · exact ih'
theorem acts_more (Rs : List RV) (a0 : Act) (env env' : Nat → Value) (sel : Nat → Bool) (i : Nat) (hi : sel i = false) (he : ∀ j, j ≠ i → env j = env' j)
    (hd : ∀ j d, i < j → sel j = true → rgDst ops i = some d → rgDst ops j ≠ some d) :
    ∀ n, i < n → rgActs ops Rs a0 env' (fun j => decide (j = i) || sel j) n = (rgActs ops Rs a0 env sel n).put (rgDst ops i) ((rgR Rs i).val env' i) := by
  intro n
  induction n with
  | zero => intro h; omega
  | succ n ih =>
    intro hn
    by_cases e : n = i
    · subst e
      simp only [rgActs, decide_true, Bool.true_or, if_true, hi]
      rw [acts_env Rs a0 env' env (fun j => decide (j = n) || sel j) sel n (fun j hj => ⟨by simp; omega, fun _ => (he j (by omega)).symm⟩)]
      rfl
    · have ih' := ih (by omega)
      have ev : (rgR Rs n).val env' n = (rgR Rs n).val env n := by cases rgR Rs n <;> simp [RV.val, he n e]
      simp only [rgActs, e, decide_false, Bool.false_or]
      split
      · rename_i hs
        rw [ih', ev]
        exact Act.put_comm _ _ _ (fun d h => hd n d (by omega) hs h)
      · exact ih'
theorem rgo_all (env : Nat → Value) (N : Nat) (Rs : List RV) (a0 : Act) : ∀ m i, i + m = Rs.length → rgo P ops Q w0 env N i (Rs.drop i) (rgActs ops Rs a0 env (fun _ => true) i) (rgFacts Rs env i) →
    (∀ k, i ≤ k → k < Rs.length → (rgR Rs k).mono ∧ rgStep P ops Q w0 k (rgR Rs k) (rgActs ops Rs a0 env (fun _ => true) k) (rgFacts Rs env k)) ∧
    Rs.length = N ∧ ∀ W, Below w0.heap.size w0 W → (∀ x, x ∈ rgFacts Rs env N → x.2 W) → wpList P ops Q (ops.toList.drop N) (rgActs ops Rs a0 env (fun _ => true) N) W := by
  intro m
  induction m with
  | zero =>
    intro i hi h
    have : Rs.drop i = [] := List.drop_eq_nil_of_le (by omega)
    rw [this] at h
    obtain ⟨h1, h2⟩ := h
    subst h1
    exact ⟨fun k hk hk2 => by omega, by omega, h2⟩
  | succ m ih =>
    intro i hi h
    have hlt : i < Rs.length := by omega
    have hc : Rs.drop i = rgR Rs i :: Rs.drop (i + 1) := by
      rw [List.drop_eq_getElem_cons hlt]
      simp [rgR, List.getD, List.getElem?_eq_getElem hlt]
    rw [hc] at h
    obtain ⟨h1, h2, h3⟩ := h
    have h4 := ih (i + 1) (by omega) (by simpa only [rgActs, rgFacts, if_true] using h3)
    refine ⟨fun k hk hk2 => ?_, h4.2⟩
    by_cases e : k = i
    · subst e; exact ⟨h1, h2⟩
    · exact h4.1 k (by omega) hk2
theorem rgFacts_mem {Rs : List RV} {env : Nat → Value} {W : World} : ∀ n, (∀ j, j < n → (rgR Rs j).ok env j W) → ∀ x, x ∈ rgFacts Rs env n → x.2 W := by
  intro n
  induction n with
  | zero => intro _ x hx; cases hx
  | succ n ih =>
    intro h x hx
    rcases List.mem_append.1 hx with hx | hx
    · exact ih (fun j hj => h j (by omega)) x hx
    · have hn := h n (by omega)
      cases hr : rgR Rs n with
      | det v => rw [hr] at hx; cases hx
      | rel V => rw [hr] at hx hn; cases hx with | head => exact hn | tail _ h => cases h
theorem rgFacts_pred {Rs : List RV} {env : Nat → Value} {W : World} (p : Nat → Bool) : ∀ n, (∀ j, j < n → p j = true → (rgR Rs j).ok env j W) → ∀ x, x ∈ rgFacts Rs env n → p x.1 = true → x.2 W := by
  intro n
  induction n with
  | zero => intro _ x hx; cases hx
  | succ n ih =>
    intro h x hx hp
    rcases List.mem_append.1 hx with hx | hx
    · exact ih (fun j hj => h j (by omega)) x hx hp
    · cases hr : rgR Rs n with
      | det v => rw [hr] at hx; cases hx
      | rel V =>
        rw [hr] at hx
        cases hx with
        | head => have hn := h n (by omega) hp; rw [hr] at hn; exact hn
        | tail _ h => cases h
theorem getD_set (l : Array Bool) (i j : Nat) (hi : i < l.size) : (l.setIfInBounds i true).getD j false = (decide (j = i) || l.getD j false) := by
  by_cases e : j = i
  · subst e; simp [Array.getD, hi]
  · have hne : i ≠ j := fun h => e h.symm
    simp [Array.getD_eq_getD_getElem?, Array.getElem?_setIfInBounds_ne hne, e]
theorem put_any {a b : Act} {d : Option Tmp} {v v' : Value} (h : a.put d v = a.put d v') (hs : a.tmps.size = b.tmps.size) : b.put d v = b.put d v' := by
  cases d with
  | none => rfl
  | some d =>
    simp only [Act.put, Act.mk.injEq, and_true] at h ⊢
    by_cases hd : d < a.tmps.size
    · have := congrArg (fun x : Array Value => x[d]?) h
      simp [hd] at this
      rw [this]
    · have hd2 : b.tmps.size ≤ d := by rw [← hs]; exact Nat.le_of_not_lt hd
      rw [Array.setIfInBounds_eq_of_size_le hd2, Array.setIfInBounds_eq_of_size_le hd2]
theorem arr_of {l : Array Bool} {n N : Nat} (hs : l.size = n) (h1 : ∀ j, j < N → l.getD j false = true) (h2 : ∀ j, l.getD j false = true → j < N) : l = ((List.range n).map fun j => decide (j < N)).toArray := by
  apply Array.ext
  · simp [hs]
  · intro i hi hi2
    have e : l.getD i false = l[i] := by simp [Array.getD, hi]
    simp only [List.getElem_toArray, List.getElem_map, List.getElem_range]
    by_cases h : i < N
    · rw [← e, h1 i h]; simp [h]
    · cases hl : l[i] with
      | true => exact absurd (h2 i (by rw [e, hl])) h
      | false => simp [h]
theorem rg_aux (N : Nat) (Rs : List RV) (a0 : Act) (hok : rgOk ops = true) (htail : rgTail ops N = true) (h : ∀ env, rgo P ops Q w0 env N 0 Rs a0 []) :
    ∀ (fuel : Nat) (listed : Array Bool) (env : Nat → Value) (W : World), listed.size = ops.size →
      fuel = ((List.range ops.size).filter fun j => !listed.getD j false).length → (∀ j, listed.getD j false = true → j < N) →
      (∀ i, listed.getD i false = true → ∀ e, e ∈ rgEdges ops i → listed.getD e false = true) →
      Below w0.heap.size w0 W → (∀ j, listed.getD j false = true → (rgR Rs j).ok env j W) →
      wpAny P .any ops Q fuel listed (rgActs ops Rs a0 env (fun j => listed.getD j false) N) W := by
  unfold rgOk at hok
  unfold rgTail at htail
  simp only [Bool.and_eq_true, List.all_eq_true, List.mem_range, Bool.or_eq_true, decide_eq_true_eq] at hok htail
  obtain ⟨hsel, hok⟩ := hok
  obtain ⟨⟨hNn, htl⟩, hseq⟩ := htail
  have hall : ∀ env, _ := fun env => rgo_all (P := P) (ops := ops) (Q := Q) (w0 := w0) env N Rs a0 Rs.length 0 (by omega) (by simpa [rgActs, rgFacts] using h env)
  have hlen : Rs.length = N := (hall (fun _ => undef)).2.1
  -- all the first ones done: the tail
  have hfin : ∀ (fuel : Nat) (listed : Array Bool) (env : Nat → Value) (W : World), listed.size = ops.size → fuel = ((List.range ops.size).filter fun j => !listed.getD j false).length → (∀ j, listed.getD j false = true → j < N) → (∀ i, i < N → listed.getD i false = true) → Below w0.heap.size w0 W → (∀ j, listed.getD j false = true → (rgR Rs j).ok env j W) →
      wpAny P .any ops Q fuel listed (rgActs ops Rs a0 env (fun j => listed.getD j false) N) W := by
    intro fuel listed env W hsz hc hN hl hb hv
    have := (hall env).2.2 W hb (rgFacts_mem N fun j hj => hv j (hl j hj))
    rw [acts_env Rs a0 env env (fun j => listed.getD j false) (fun _ => true) N (fun j hj => ⟨hl j hj, fun _ => rfl⟩)]
    have hls := arr_of hsz hl hN
    have hfl : fuel = (ops.toList.drop N).length := by
      rw [hc]
      have e : ((List.range ops.size).filter fun j => !listed.getD j false) = (List.range ops.size).drop N := by
        have e2 : (fun j => !listed.getD j false) = fun j => decide (N ≤ j) := by
          funext j
          by_cases hj : j < N
          · rw [hl j hj]; simp; omega
          · cases hx : listed.getD j false with
            | true => exact absurd (hN j hx) hj
            | false => simp; omega
        rw [e2]
        have h3 : List.range ops.size = List.range' 0 N ++ List.range' N (ops.size - N) := by
          have h4 := @List.range'_append_1 0 N (ops.size - N)
          rw [Nat.zero_add, show N + (ops.size - N) = ops.size by omega] at h4
          rw [List.range_eq_range', h4]
        rw [h3, List.filter_append, List.filter_eq_nil_iff.2 (by intro j hj; simp [List.mem_range'] at hj; simp; omega), List.nil_append, List.filter_eq_self.2 (by intro j hj; simp [List.mem_range'] at hj; simp; omega), List.drop_left' (by simp)]
      rw [e]; simp
    rw [hfl]
    refine wpAny_of_seq (ops.toList.drop N) N listed _ W (fun j => by simp) ?_ this
    rw [← hfl, hls, hfl]
    simpa using hseq
  -- nothing ready: all is done
  have hdone : ∀ (listed : Array Bool), listed.size = ops.size → Region.ready .any ops listed = [] → ∀ i, i < ops.size → listed.getD i false = true := by
    intro listed hsz hr i
    induction i using Nat.strongRecOn with
    | _ i ih =>
      intro hi
      cases hl : listed.getD i false with
      | true => rfl
      | false =>
        exfalso
        have hm : i ∈ Region.ready .any ops listed := by
          unfold Region.ready
          rw [List.mem_filter]
          refine ⟨List.mem_range.2 hi, ?_⟩
          have h1 : listed.getD i true = false := by
            rw [Array.getD_eq_getD_getElem?] at hl ⊢
            rw [Array.getElem?_eq_getElem (by omega)] at hl ⊢
            exact hl
          rw [h1, Array.getElem?_eq_getElem hi]
          simp only [Bool.not_false, Bool.true_and, Option.map_some, Option.getD_some]
          rw [Array.all_eq_true_iff_forall_mem]
          intro e he
          by_cases hb : Region.binds .any e = true
          · have hmem : e.on ∈ rgEdges ops i := by
              unfold rgEdges; rw [Array.getElem?_eq_getElem hi]
              exact List.mem_map.2 ⟨e, List.mem_filter.2 ⟨by simpa using he, hb⟩, rfl⟩
            have hlt := (hok i hi).1 _ hmem
            simp [ih e.on hlt (by omega)]
          · simp [hb]
        rw [hr] at hm
        cases hm
  intro fuel
  induction fuel with
  | zero =>
    intro listed env W hsz hc hN hcl hb hv
    refine hfin 0 listed env W hsz hc hN (fun i hi => ?_) hb hv
    cases hx : listed.getD i false with
    | true => rfl
    | false =>
      have hm : i ∈ (List.range ops.size).filter fun j => !listed.getD j false := List.mem_filter.2 ⟨List.mem_range.2 (by omega), by simp [hx]⟩
      have := List.length_pos_of_mem hm
      omega
  | succ fuel ih =>
    intro listed env W hsz hc hN hcl hb hv
    by_cases hallN : ∀ i, i < N → listed.getD i false = true
    · exact hfin _ listed env W hsz hc hN hallN hb hv
    refine ⟨fun hr => absurd (fun i hi => hdone listed hsz hr i (by omega)) hallN, fun i hi => ?_⟩
    unfold Region.ready at hi
    rw [List.mem_filter, List.mem_range] at hi
    obtain ⟨hin, hi⟩ := hi
    rw [Array.getElem?_eq_getElem hin] at hi
    simp only [Option.map_some, Option.getD_some, Bool.and_eq_true, Bool.not_eq_true'] at hi
    obtain ⟨hnl, hrd⟩ := hi
    have hnl2 : listed.getD i false = false := by
      rw [Array.getD_eq_getD_getElem?] at hnl ⊢
      rw [Array.getElem?_eq_getElem (by omega)] at hnl ⊢
      exact hnl
    rw [Array.all_eq_true_iff_forall_mem] at hrd
    have hed : ∀ e, e ∈ rgEdges ops i → listed.getD e false = true := by
      intro e he
      unfold rgEdges at he
      rw [Array.getElem?_eq_getElem hin] at he
      obtain ⟨x, hx, rfl⟩ := List.mem_map.1 he
      rw [List.mem_filter] at hx
      have := hrd x (by simpa using hx.1)
      simpa [hx.2] using this
    have hpredl : ∀ j, rgPred ops j i = true → listed.getD j false = true := fun j hj => rgM_sound ops (fun j => listed.getD j false = true) hcl ops.size i j hin hed hj
    have hiN : i < N := by
      rcases Nat.lt_or_ge i N with h | h
      · exact h
      · exfalso
        apply hallN
        intro j hj
        rcases htl i hin with h1 | h1
        · omega
        · exact hpredl j (h1 j hj)
    have hnopred : ∀ j, j < ops.size → listed.getD j false = true → rgPred ops i j = false := by
      intro j hj hl
      cases hp : rgPred ops i j with
      | false => rfl
      | true =>
        have := rgM_sound ops (fun j => listed.getD j false = true) hcl ops.size j i hj (hcl j hl) hp
        rw [hnl2] at this; cases this
    have hstep := ((hall env).1 i (Nat.zero_le _) (by omega))
    -- what names a slot of it
    have hnames : ∀ j, j < ops.size → listed.getD j false = true → j > i → rgApart ops i j = true := by
      intro j hj hl hji
      rcases (hok j hj).2 i hji with h | h
      · exact h
      · have h2 := hnopred j hj hl; unfold rgPred at h2; rw [h] at h2; cases h2
    have hnames2 : ∀ j, j < i → listed.getD j false = false → rgApart ops j i = true := by
      intro j hji hl
      rcases (hok i hin).2 j hji with h | h
      · exact h
      · have h2 := hpredl j h; rw [hl] at h2; cases h2
    have hdlt : ∀ j t, rgDst ops j = some t → j < ops.size := by
      intro j t h
      rcases Nat.lt_or_ge j ops.size with h1 | h1
      · exact h1
      · simp [rgDst, Array.getElem?_eq_none h1] at h
    have hslot : ∀ o, ops[i]? = some o → ∀ t, t ∈ o.looksAt ops → (rgActs ops Rs a0 env (fun j => listed.getD j false) N).tmps[t]? = (rgActs ops Rs a0 env (fun _ => true) i).tmps[t]? := by
      intro o ho t ht
      have := acts_slot (ops := ops) Rs a0 env (fun j => listed.getD j false) t i (by
        intro j hj
        have hjn := hdlt j t hj
        obtain ⟨oj, hoj⟩ : ∃ oj, ops[j]? = some oj := ⟨_, Array.getElem?_eq_getElem hjn⟩
        have hdj : oj.dst = some t := by simpa [rgDst, hoj] using hj
        constructor
        · intro hl
          rcases Nat.lt_trichotomy j i with h | h | h
          · exact h
          · subst h; rw [hnl2] at hl; cases hl
          · exfalso
            have := hnames j hjn hl h
            unfold rgApart at this
            rw [ho, hoj] at this
            exact (Oper.apart_spec this).2.2 t hdj ht
        · intro hji
          cases hl : listed.getD j false with
          | true => rfl
          | false =>
            exfalso
            have := hnames2 j hji hl
            unfold rgApart at this
            rw [ho, hoj] at this
            exact (Oper.apart_spec this).1 t hdj ht) N
      rw [this, show min N i = i by omega]
    refine wpOp_transfer (a := rgActs ops Rs a0 env (fun _ => true) i) (K := fun a' W' => ∃ v, a' = (rgActs ops Rs a0 env (fun _ => true) i).put (rgDst ops i) v ∧ Below W.heap.size W W' ∧ (rgR Rs i).takes v W') hsel hslot (by rw [acts_def, acts_def]) (hstep.2 W _ hb ?_ ?_) ?_ ?_
    · exact rgFacts_pred (fun j => rgPred ops j i) i (fun j _ hp => hv j (hpredl j hp))
    · intro v W' h1 h2; exact ⟨v, rfl, h1, h2⟩
    · rintro v W' ⟨v', hvv, hbel, htk⟩
      rw [put_any (b := rgActs ops Rs a0 env (fun j => listed.getD j false) N) hvv (by rw [acts_size, acts_size])]
      have hgs : ∀ j, (listed.setIfInBounds i true).getD j false = (decide (j = i) || listed.getD j false) := fun j => getD_set listed i j (by omega)
      have hval : (rgR Rs i).val (fun j => if j = i then v' else env j) i = v' := by
        cases hr : rgR Rs i with
        | det u => rw [hr] at htk; exact htk.symm
        | rel V => simp [RV.val]
      have hact := acts_more (ops := ops) Rs a0 env (fun j => if j = i then v' else env j) (fun j => listed.getD j false) i hnl2 (fun j hj => by simp [hj]) (by
        intro j d hji hl hd hd2
        have hjn := hdlt j d hd2
        have := hnames j hjn hl hji
        unfold rgApart at this
        rw [Array.getElem?_eq_getElem hin, Array.getElem?_eq_getElem hjn] at this
        refine (Oper.apart_spec this).2.1 d ?_ ?_
        · simpa [rgDst, Array.getElem?_eq_getElem hin] using hd
        · simpa [rgDst, Array.getElem?_eq_getElem hjn] using hd2) N hiN
      rw [hval] at hact
      rw [← hact]
      have hsel2 : (fun j => decide (j = i) || listed.getD j false) = (fun j => (listed.setIfInBounds i true).getD j false) := funext fun j => (hgs j).symm
      rw [hsel2]
      refine ih (listed.setIfInBounds i true) _ W' (by simpa using hsz) ?_ ?_ ?_ (hb.trans (hbel.mono hb.size)) ?_
      · have h1 : ((List.range ops.size).filter fun j => !(listed.setIfInBounds i true).getD j false) = ((List.range ops.size).filter fun j => !listed.getD j false).erase i := by
          rw [List.Nodup.erase_eq_filter (List.nodup_range.filter _) i, List.filter_filter]
          apply List.filter_congr
          intro x _
          rw [hgs]
          by_cases hx : x = i <;> simp [hx]
        rw [h1, List.length_erase_of_mem (List.mem_filter.2 ⟨List.mem_range.2 hin, by simp [hnl2]⟩)]
        omega
      · intro j hj
        rw [hgs] at hj
        by_cases hji : j = i
        · subst hji; exact hiN
        · simp only [hji, decide_false, Bool.false_or] at hj; exact hN j hj
      · intro j hj e he
        rw [hgs] at hj ⊢
        by_cases hji : j = i
        · subst hji; rw [hed e he]; simp
        · simp only [hji, decide_false, Bool.false_or] at hj
          rw [hcl j hj e he]; simp
      · intro j hj
        rw [hgs] at hj
        by_cases hji : j = i
        · subst hji
          cases hr : rgR Rs j with
          | det u => trivial
          | rel V =>
            rw [hr] at htk
            show V (if j = j then v' else env j) W'
            rw [if_pos rfl]; exact htk
        · simp only [hji, decide_false, Bool.false_or] at hj
          have h1 := hv j hj
          cases hr : rgR Rs j with
          | det u => trivial
          | rel V =>
            rw [hr] at h1
            have hlt : j < Rs.length := by
              rcases Nat.lt_or_ge j Rs.length with h | h
              · exact h
              · simp [rgR, List.getD, List.getElem?_eq_none h] at hr
            have hm := ((hall env).1 j (Nat.zero_le _) hlt).1
            rw [hr] at hm
            have := hm _ _ _ h1 hbel
            simpa [RV.ok, hji] using this
    · rintro a' W' ⟨v, rfl, _⟩; exact put_def _ _ _
/-- the region's law -/
theorem rg_region_tail {id : Nat} {a : Act} (N : Nat) (hm : P.follows .mixedOrders = true) (hok : rgOk ops = true) (htail : rgTail ops N = true) (Rs : List RV) (h : ∀ env, rgo P ops Q w0 env N 0 Rs a []) : (Code.region id ops true).wp P Q a w0 := by
  refine wp_region_any hm ?_
  have hz : ∀ i, (Array.replicate ops.size false).getD i false = false := fun i => by by_cases h : i < ops.size <;> simp [Array.getD, h]
  have := rg_aux N Rs a hok htail h ops.size (Array.replicate ops.size false) (fun _ => undef) { w0 with drawn := w0.drawn + 1 } (by simp)
    (by rw [List.filter_eq_self.2 (fun j _ => by rw [hz]; rfl)]; simp) (by intro i hi; rw [hz] at hi; cases hi) (by
      intro i hi; rw [hz] at hi; cases hi) ⟨rfl, rfl, rfl, Nat.le_refl _, fun _ _ => rfl⟩ (by intro i hi; rw [hz] at hi; cases hi)
  have e : rgActs ops Rs a (fun _ => undef) (fun j => (Array.replicate ops.size false).getD j false) N = a := by
    have : ∀ n, rgActs ops Rs a (fun _ => undef) (fun j => (Array.replicate ops.size false).getD j false) n = a := by
      intro n
      induction n with
      | zero => rfl
      | succ n ih =>
        unfold rgActs
        rw [hz]; exact ih
    exact this _
  rw [e] at this
  exact this
theorem rg_region {id : Nat} {a : Act} (hm : P.follows .mixedOrders = true) (hok : (rgOk ops && rgTail ops ops.size) = true) (Rs : List RV) (h : ∀ env, rgo P ops Q w0 env ops.size 0 Rs a []) : (Code.region id ops true).wp P Q a w0 := by
  rw [Bool.and_eq_true] at hok
  exact rg_region_tail ops.size hm hok.1 hok.2 Rs h
end
/-! ### the rules for use -/
def rgSlot (ops : Array Oper) (i : Nat) (a : Act) : Value := match rgDst ops i with | some d => a.tmps.getD d undef | none => undef
section
variable {P : Program} {ops : Array Oper} {Q : Exit → Act → World → Prop} {w0 : World} {env : Nat → Value} {N : Nat}
theorem wpOp_mk {i : Nat} {o : Oper} {K : Act → World → Prop} {a : Act} {W : World} (ho : ops[i]? = some o) (h : if Region.wanted o (yielded ops a.tmps) = true then Oper.wp P o a W K Q else K (a.put o.dst undef) W) : wpOp P ops Q i K a W := by
  unfold wpOp
  rw [ho]
  show if Region.wanted o (yielded ops a.tmps) = true then _ else _
  split
  · rename_i hw; rw [if_pos hw] at h; exact .inl h
  · rename_i hw; rw [if_neg hw] at h; exact h
/-- an operation whose value is known -/
theorem rg_det {i : Nat} {o : Oper} {a a' : Act} {Rs : List RV} {F : List (Nat × (World → Prop))} (ho : ops[i]? = some o)
    (hstep : ∀ (W : World) (K : Act → World → Prop), Below w0.heap.size w0 W → (∀ x, x ∈ F → rgPred ops x.1 i = true → x.2 W) → (∀ W', Below W.heap.size W W' → K a' W') → if Region.wanted o (yielded ops a.tmps) = true then Oper.wp P o a W K (onlyOut Q) else K (a.put o.dst undef) W)
    (hput : a' = a.put (rgDst ops i) (rgSlot ops i a')) (hr : rgo P ops Q w0 env N (i + 1) Rs a' F) : rgo P ops Q w0 env N i (.det (rgSlot ops i a') :: Rs) a F := by
  refine ⟨trivial, fun W K hW hF hK => wpOp_mk ho (hstep W K hW hF fun W' hb => ?_), ?_⟩
  · rw [hput]; exact hK _ W' hb rfl
  · show rgo P ops Q w0 env N (i + 1) Rs (a.put (rgDst ops i) (rgSlot ops i a')) (F ++ [])
    rw [List.append_nil, ← hput]; exact hr
/-- an operation of whose value something is known -/
theorem rg_rel {i : Nat} {o : Oper} {a a' : Act} {Rs : List RV} {F : List (Nat × (World → Prop))} (V : Value → World → Prop) (ho : ops[i]? = some o) (hm : ∀ v W W', V v W → Below W.heap.size W W' → V v W')
    (hstep : ∀ (W : World) (K : Act → World → Prop), Below w0.heap.size w0 W → (∀ x, x ∈ F → rgPred ops x.1 i = true → x.2 W) → (∀ v W', Below W.heap.size W W' → V v W' → K (a.put o.dst v) W') → if Region.wanted o (yielded ops a.tmps) = true then Oper.wp P o a W K (onlyOut Q) else K (a.put o.dst undef) W)
    (hput : a.put (rgDst ops i) (env i) = a') (hr : rgo P ops Q w0 env N (i + 1) Rs a' (F ++ [(i, V (env i))])) : rgo P ops Q w0 env N i (.rel V :: Rs) a F := by
  have hd : rgDst ops i = o.dst := by simp [rgDst, ho]
  refine ⟨hm, fun W K hW hF hK => wpOp_mk ho (hstep W K hW hF fun v W' hb hv => ?_), ?_⟩
  · rw [← hd]; exact hK v W' hb hv
  · show rgo P ops Q w0 env N (i + 1) Rs (a.put (rgDst ops i) (env i)) _
    rw [hput]; exact hr
theorem rg_done {a : Act} {F : List (Nat × (World → Prop))} {n : Nat} (hn : n = ops.size) (h : ∀ W, Below w0.heap.size w0 W → (∀ x, x ∈ F → x.2 W) → Q .normal a W) : rgo P ops Q w0 env ops.size n [] a F :=
  ⟨hn, fun W hW hF => by
    have e : ops.toList.drop ops.size = [] := List.drop_eq_nil_of_le (by simp)
    rw [e]; exact h W hW hF⟩
theorem rg_tail {a : Act} {F : List (Nat × (World → Prop))} {n : Nat} (l : List Oper) (hn : n = N) (hl : ops.toList.drop N = l) (h : ∀ W, Below w0.heap.size w0 W → (∀ x, x ∈ F → x.2 W) → wpList P ops Q l a W) : rgo P ops Q w0 env N n [] a F :=
  ⟨hn, fun W hW hF => by rw [hl]; exact h W hW hF⟩
end
end Go.Proofs.Ytopmppnnihdnaaa
