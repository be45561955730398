/- The abstract machine: code, functions. -/
import Derived.Test.YtopmppnnihdnaaaAmRun
namespace Go.Proofs.Ytopmppnnihdnaaa
set_option linter.unusedVariables false
set_option linter.unusedSimpArgs false
open Go.RowKit
abbrev QA := Exit → Sl → List AO → List AO → Prop
/-- nothing in it that may be written, beyond number m -/
inductive NoH (m : Nat) : AV → Prop where
  | int (k : IntKind) (n : Int) : NoH m (.int k n)
  | bool (b : Bool) : NoH m (.bool b)
  | str (s : ByteArray) : NoH m (.str s)
  | raw (v : Value) : NoH m (.raw v)
  | lit (n : Nat) (e : TypeId) (us : List Value) : NoH m (.lit n e us)
  | agg (cs : List AV) (h : ∀ x, x ∈ cs → NoH m x) : NoH m (.agg cs)
  | tup (cs : List AV) (h : ∀ x, x ∈ cs → NoH m x) : NoH m (.tup cs)
  | sl (cs : List AV) (h : ∀ x, x ∈ cs → ∀ y, y ∈ x.cells → NoH m y) : NoH m (.sl cs)
  | pe (cs : List AV) (h : ∀ x, x ∈ cs → NoH m x) : NoH m (.pe cs)
  | box (i off : Nat) (h : i < m) : NoH m (.box i off)
  | own (i g : Nat) (h : i < m) : NoH m (.own i g)
  | elt (i g off : Nat) (h : i < m) : NoH m (.elt i g off)
  | fn (f : Fn) (fs cs : List AV) (h1 : ∀ x, x ∈ fs → NoH m x) (h : ∀ x, x ∈ cs → NoH m x) : NoH m (.fn f fs cs)
  | ifc (t : TypeId) (x : AV) (h : NoH m x) : NoH m (.ifc t x)
  | opt (c : Bool) (x : AV) (h : c = true → NoH m x) : NoH m (.opt c x)
  | adr (T : TypeId) : NoH m (.adr T)
  | buf (e : TypeId) (s : ByteArray) : NoH m (.buf e s)
theorem NoH.mono {m m' : Nat} (hm : m ≤ m') {X : AV} (h : NoH m X) : NoH m' X := by
  induction h with
  | int k n => exact .int k n
  | bool b => exact .bool b
  | str s => exact .str s
  | raw v => exact .raw v
  | lit n e us => exact .lit n e us
  | agg cs _ ih => exact .agg cs ih
  | tup cs _ ih => exact .tup cs ih
  | sl cs _ ih => exact .sl cs ih
  | pe cs _ ih => exact .pe cs ih
  | box i off h => exact .box i off (by omega)
  | own i g h => exact .own i g (by omega)
  | elt i g off h => exact .elt i g off (by omega)
  | fn f fs cs _ _ ih1 ih => exact .fn f fs cs ih1 ih
  | ifc t x _ ih => exact .ifc t x ih
  | opt c x _ ih => exact .opt c x ih
  | adr T => exact .adr T
  | buf e s => exact .buf e s
def AO.conts : AO → List AV
  | .box cs => cs
  | .row _ _ _ xs => xs.flatMap AV.cells
  | .dead => []
  | .guard => []
/-- things of those who called: so many, and they hold no pointer to what is made later -/
def GOK (m : Nat) (G : List AO) : Prop := G.length = m ∧ ∀ o, o ∈ G → ∀ x, x ∈ o.conts → NoH m x
theorem VRep.noH {β : List Hd} {w : World} {v : Value} {X : AV} (h : VRep β w v X) : NoH β.length X := by
  have at' : ∀ (vs : Array Value) (cs : List AV), vs.size = cs.length → (∀ (j : Nat) (u : Value) (x : AV), vs[j]? = some u → cs[j]? = some x → NoH β.length x) → ∀ x, x ∈ cs → NoH β.length x := by
    intro vs cs hl ih x hx
    obtain ⟨j, hj, rfl⟩ := List.mem_iff_getElem.1 hx
    exact ih j _ _ (Array.getElem?_eq_getElem (by omega)) (List.getElem?_eq_getElem hj)
  induction h with
  | int k n => exact .int k n
  | bool b => exact .bool b
  | str s => exact .str s
  | raw v => exact .raw v
  | agg vs cs hl _ ih => exact .agg cs (at' vs cs hl ih)
  | tup vs cs hl _ ih => exact .tup cs (at' vs cs hl ih)
  | slnil => exact .sl [] (fun x hx => by cases hx)
  | slemp a cap hm => exact .sl [] (fun x hx => by cases hx)
  | lit b n e us _ _ _ => exact .lit n e us
  | sl b off cap z xs hc hm2 hb hS hz hd _ ih =>
    refine .sl xs fun x hx y hy => ?_
    obtain ⟨i, hi, rfl⟩ := List.mem_iff_getElem.1 hx
    obtain ⟨j, hj, rfl⟩ := List.mem_iff_getElem.1 hy
    obtain ⟨u, hu⟩ := hd i j _ _ (List.getElem?_eq_getElem hi) (List.getElem?_eq_getElem hj)
    exact ih i j _ _ u (List.getElem?_eq_getElem hi) (List.getElem?_eq_getElem hj) hu
  | pe b off cs hb hS hd _ ih =>
    refine .pe cs fun y hy => ?_
    obtain ⟨j, hj, rfl⟩ := List.mem_iff_getElem.1 hy
    obtain ⟨u, hu⟩ := hd j _ (List.getElem?_eq_getElem hj)
    exact ih j _ u (List.getElem?_eq_getElem hj) hu
  | box b i off hi h => exact .box i off hi
  | own v i g hi h _ => exact .own i g hi
  | elt v i g off hi h => exact .elt i g off hi
  | fn f us vs fs cs hl1 hl _ _ ih1 ih => exact .fn f fs cs (at' us fs hl1 ih1) (at' vs cs hl ih)
  | ifc t v x _ ih => exact .ifc t x ih
  | opt c v x _ _ ih => exact .opt c x ih
  | adr T v => exact .adr T
  | buf e s v => exact .buf e s
theorem ORep.noH {β : List Hd} {w : World} {h : Hd} {o : AO} (ho : ORep β w h o) : ∀ x, x ∈ o.conts → NoH β.length x := by
  cases h <;> cases o <;> first | exact ho.elim | skip
  · rename_i b cs
    obtain ⟨arr, T, k1, k2, k3, _⟩ := ho
    intro x hx
    obtain ⟨j, hj, rfl⟩ := List.mem_iff_getElem.1 hx
    have hj' : j < cs.length := hj
    exact (k3 j _ _ (Array.getElem?_eq_getElem (by omega)) (List.getElem?_eq_getElem hj)).noH
  · rename_i v g' g e z xs
    obtain ⟨_, us, k1, k2, k3⟩ := ho
    intro x hx
    obtain ⟨j, hj, rfl⟩ := List.mem_iff_getElem.1 hx
    have h1 : us.length = xs.length * z := k1.1
    have h2 : (xs.flatMap AV.cells).length = xs.length * z := by
      clear k1 k3 h1 hj hx
      induction xs with
      | nil => simp
      | cons x xs ih => rw [List.flatMap_cons, List.length_append, ih (fun y hy => k2 y (List.mem_cons_of_mem _ hy)), k2 x List.mem_cons_self, List.length_cons, Nat.add_mul]; omega
    have hj' : j < (xs.flatMap AV.cells).length := hj
    exact (k3 j _ _ (List.getElem?_eq_getElem (by omega)) (List.getElem?_eq_getElem hj)).noH
  · intro x hx; cases hx
  · intro x hx; cases hx
  · rename_i b v cs
    obtain ⟨arr, T, k1, k2, k3, _⟩ := ho
    intro x hx
    obtain ⟨j, hj, rfl⟩ := List.mem_iff_getElem.1 hx
    have hj' : j < cs.length := hj
    exact (k3 j _ _ (Array.getElem?_eq_getElem (by omega)) (List.getElem?_eq_getElem hj)).noH
theorem HRel.gok {β : List Hd} {H : List AO} {w : World} (h : HRel β H w) : GOK H.length H := by
  refine ⟨rfl, fun o ho x hx => ?_⟩
  obtain ⟨i, hi, rfl⟩ := List.mem_iff_getElem.1 ho
  rw [← h.len]
  exact (h.ob i _ _ (List.getElem?_eq_getElem hi) (List.getElem?_eq_getElem (by rw [h.len]; exact hi))).noH x hx
/-- what holds behind a piece of code -/
def APost (D : List Deferred) (n m : Nat) (β : List Hd) (W : World) (Q : QA) (e : Exit) (a' : Act) (W' : World) : Prop :=
  ∃ β' σ' G' L', Q e σ' G' L' ∧ GOK m G' ∧ a'.tmps.size = n ∧ a'.defers = D ∧ Ext β W β' W' ∧ HRel β' (G' ++ L') W' ∧ SRep β' W' a' σ'
/-- code, from slots and things that may be written: G is of those who called, L its own -/
def AWP (P : Program) (n m : Nat) (c : Code) (Q : QA) (σ : Sl) (G L : List AO) : Prop :=
  ∀ (D : List Deferred) (a : Act) (W : World) (β : List Hd), GOK m G → a.tmps.size = n → a.defers = D → HRel β (G ++ L) W → SRep β W a σ → c.wp P (APost D n m β W Q) a W
def thenA (next : Sl → List AO → List AO → Prop) (Q : QA) : QA
  | .normal, σ, G, L => next σ G L
  | e, σ, G, L => Q e σ G L
def blockA (id : Nat) (Q : QA) : QA
  | .exit id', σ, G, L => if id' = id then Q .normal σ G L else Q (.exit id') σ G L
  | e, σ, G, L => Q e σ G L
section
variable {P : Program} {n m : Nat} {Q : QA} {σ : Sl} {G L : List AO}
theorem APost.ext {β β' : List Hd} {W W' : World} (hx : Ext β W β' W') {e : Exit} {a : Act} {W2 : World} {D : List Deferred} (h : APost D n m β' W' Q e a W2) : APost D n m β W Q e a W2 := by
  obtain ⟨b, s, g, l, h1, h2, h3, h4, h5, h6⟩ := h
  exact ⟨b, s, g, l, h1, h2, h3, h4, hx.trans h5, h6⟩
theorem AWP.weak {c : Code} {σ' : Sl} (h : AWP P n m c Q σ' G L) (hs : ∀ t X, look σ' t = some X → look σ t = some X) : AWP P n m c Q σ G L :=
  fun D a W β h1 h2 h3 h4 h5 => h D a W β h1 h2 h3 h4 fun t X ht => h5 t X (hs t X ht)
theorem AWP.keep {c : Code} (ks : List Nat) (h : AWP P n m c Q (keepS ks σ) G L) : AWP P n m c Q σ G L := h.weak (look_keep ks σ)
theorem AWP.mono {c : Code} {Q' : QA} (h : AWP P n m c Q σ G L) (hq : ∀ e σ G L, Q e σ G L → Q' e σ G L) : AWP P n m c Q' σ G L :=
  fun D a W β h1 h2 h3 h4 h5 => Code.wp_mono (fun e a' W' hp => by
    obtain ⟨b, s, g, l, k1, k2⟩ := hp
    exact ⟨b, s, g, l, hq _ _ _ _ k1, k2⟩) (h D a W β h1 h2 h3 h4 h5)
theorem AWP.skip (h : Q .normal σ G L) : AWP P n m .skip Q σ G L :=
  fun D a W β h1 h2 h3 h4 h5 => wp_skip ⟨β, σ, G, L, h, h1, h2, h3, Ext.refl _ _, h4, h5⟩
theorem AWP.ret (h : Q .ret σ G L) : AWP P n m .ret Q σ G L :=
  fun D a W β h1 h2 h3 h4 h5 => wp_ret ⟨β, σ, G, L, h, h1, h2, h3, Ext.refl _ _, h4, h5⟩
theorem AWP.exit {id : Nat} (h : Q (.exit id) σ G L) : AWP P n m (.exit id) Q σ G L :=
  fun D a W β h1 h2 h3 h4 h5 => wp_exit ⟨β, σ, G, L, h, h1, h2, h3, Ext.refl _ _, h4, h5⟩
theorem AWP.seq {x y : Code} (h : AWP P n m x (thenA (AWP P n m y Q) Q) σ G L) : AWP P n m (.seq x y) Q σ G L := by
  intro D a W β h1 h2 h3 h4 h5
  refine wp_seq (Code.wp_mono ?_ (h D a W β h1 h2 h3 h4 h5))
  intro e a' W' ⟨β', σ', G', L', k1, k2, k3, k4, k5, k6, k7⟩
  cases e <;> first
    | exact Code.wp_mono (fun e a W hp => hp.ext k5) (k1 D a' W' β' k2 k3 k4 k6 k7)
    | exact ⟨β', σ', G', L', k1, k2, k3, k4, k5, k6, k7⟩
theorem AWP.block {id : Nat} {c : Code} (h : AWP P n m c (blockA id Q) σ G L) : AWP P n m (.block id c) Q σ G L := by
  intro D a W β h1 h2 h3 h4 h5
  refine wp_block (Code.wp_mono ?_ (h D a W β h1 h2 h3 h4 h5))
  intro e a' W' ⟨β', σ', G', L', k1, k2⟩
  cases e with
  | exit id' =>
    unfold Exit.inBlock
    unfold blockA at k1
    by_cases hid : id' = id
    · simp only [hid, if_true] at k1 ⊢; exact ⟨β', σ', G', L', k1, k2⟩
    · simp only [if_neg hid] at k1 ⊢; exact ⟨β', σ', G', L', k1, k2⟩
  | _ => exact ⟨β', σ', G', L', k1, k2⟩
theorem AWP.scope {c : Code} (h : AWP P n m c Q σ G L) (hs : ∀ {Q : Exit → Act → World → Prop} {a : Act} {w : World}, c.wp P Q a w → (Code.scope c).wp P Q a w) : AWP P n m (.scope c) Q σ G L :=
  fun D a W β h1 h2 h3 h4 h5 => hs (h D a W β h1 h2 h3 h4 h5)
/-- what an operand is -/
def cAV : Value → AV
  | .int k n => .int k n
  | .bool b => .bool b
  | .string s => .str s
  | .slice none 0 0 => .sl []
  | v => .raw v
theorem cAV_rep (β : List Hd) (w : World) (v : Value) : VRep β w v (cAV v) := by
  unfold cAV
  split <;> constructor
def evS (σ : Sl) : Operand → Option AV
  | .tmp t => look σ t
  | .const v => some (cAV v)
  | .func f => some (.fn (.func f) [] [])
  | .global g => some (.raw (.pointer (some ⟨g, 0, none⟩)))
theorem SRep.ev {β : List Hd} {w : World} {a : Act} (h : SRep β w a σ) {x : Operand} {X : AV} (hx : evS σ x = some X) : VRep β w (a.eval x) X := by
  cases x with
  | tmp t =>
    obtain ⟨u, h1, h2⟩ := h t X hx
    have e : a.eval (.tmp t) = u := by show a.tmps.getD t undef = u; rw [Array.getD_eq_getD_getElem?, h1]; rfl
    rw [e]; exact h2
  | const v => cases hx; exact cAV_rep _ _ _
  | func f => cases hx; exact .fn _ _ _ _ _ rfl rfl (fun j u x h => by simp at h) (fun j u x h => by simp at h)
  | global g => cases hx; exact .raw _
theorem VRep.bool_inv {β : List Hd} {w : World} {v : Value} {b : Bool} (h : VRep β w v (.bool b)) : v = .bool b := by cases h; rfl
theorem VRep.int_inv {β : List Hd} {w : World} {v : Value} {k : IntKind} {i : Int} (h : VRep β w v (.int k i)) : v = .int k i := by cases h; rfl
theorem VRep.str_inv {β : List Hd} {w : World} {v : Value} {s : ByteArray} (h : VRep β w v (.str s)) : v = .string s := by cases h; rfl
theorem VRep.raw_inv {β : List Hd} {w : World} {v u : Value} (h : VRep β w v (.raw u)) : v = u := by cases h; rfl
theorem AWP.cond {c : Operand} {x y : Code} {b : Bool} (hc : evS σ c = some (.bool b)) (ht : b = true → AWP P n m x Q σ G L) (hf : b = false → AWP P n m y Q σ G L) : AWP P n m (.cond c x y) Q σ G L :=
  fun D a W β h1 h2 h3 h4 h5 => wp_cond_split (h5.ev hc).bool_inv (fun e => ht e D a W β h1 h2 h3 h4 h5) (fun e => hf e D a W β h1 h2 h3 h4 h5)
theorem AWP.loop {c : Code} (I : Sl → List AO → List AO → Prop) (μ : Sl → List AO → List AO → Nat) (h0 : I σ G L)
    (round : ∀ σ G L, I σ G L → AWP P n m c (thenA (fun σ' G' L' => I σ' G' L' ∧ μ σ' G' L' < μ σ G L) Q) σ G L) : AWP P n m (.loop c) Q σ G L := by
  intro D a W β h1 h2 h3 h4 h5 b k cs
  have key : ∀ N σ G L, μ σ G L = N → I σ G L → ∀ (a : Act) (W : World) (β : List Hd), GOK m G → a.tmps.size = n → a.defers = D → HRel β (G ++ L) W → SRep β W a σ →
      ∃ e a' w', APost D n m β W Q e a' w' ∧ Arrives P (lone (b.at a (.code c :: .inLoop c :: k)) cs W) b k cs e a' w' := by
    intro N
    induction N using Nat.strongRecOn with
    | _ N ih =>
      intro σ G L hN hI a W β h1 h2 h3 h4 h5
      obtain ⟨e, a₁, w₁, hq, harr⟩ := round σ G L hI D a W β h1 h2 h3 h4 h5 b (.inLoop c :: k) cs
      obtain ⟨β', σ', G', L', k1, k2, k3, k4, k5, k6, k7⟩ := hq
      cases e with
      | normal =>
        obtain ⟨hI₁, hlt⟩ := k1
        obtain ⟨e₂, a₂, w₂, hq₂, harr₂⟩ := ih _ (hN ▸ hlt) σ' G' L' rfl hI₁ a₁ w₁ β' k2 k3 k4 k6 k7
        exact ⟨e₂, a₂, w₂, hq₂.ext k5, .of_steps (Steps.trans harr (.one step_inLoop)) harr₂⟩
      | exit id => exact ⟨_, a₁, w₁, ⟨β', σ', G', L', k1, k2, k3, k4, k5, k6, k7⟩, .pass (x := .inLoop c) rfl (fun _ _ => .inl (by simp)) harr⟩
      | goto l => exact ⟨_, a₁, w₁, ⟨β', σ', G', L', k1, k2, k3, k4, k5, k6, k7⟩, .pass (x := .inLoop c) rfl (fun _ _ => .inl (by simp)) harr⟩
      | ret => exact ⟨_, a₁, w₁, ⟨β', σ', G', L', k1, k2, k3, k4, k5, k6, k7⟩, .pass (x := .inLoop c) rfl (fun _ _ => .inl (by simp)) harr⟩
      | panic ch => exact ⟨_, a₁, w₁, ⟨β', σ', G', L', k1, k2, k3, k4, k5, k6, k7⟩, .pass (x := .inLoop c) rfl (fun _ _ => .inl (by simp)) harr⟩
      | outgrown => exact ⟨_, a₁, w₁, ⟨β', σ', G', L', k1, k2, k3, k4, k5, k6, k7⟩, .pass (x := .inLoop c) rfl (fun _ _ => .inl (by simp)) harr⟩
  obtain ⟨e, a', w', hq, harr⟩ := key _ σ G L rfl h0 a W β h1 h2 h3 h4 h5
  exact ⟨e, a', w', hq, .of_steps (.one step_loop) harr⟩
def endQ (m : Nat) (Q : QA) (_ks : List Kd) (σ : Sl) (H : List AO) : Prop := ∃ G L, H = G ++ L ∧ GOK m G ∧ Q .normal σ G L
theorem AWP.region {id : Nat} {ops : Array Oper} (h : GOK m G → ARun P ops n (endQ m Q) ops.toList [] σ (G ++ L)) : AWP P n m (.region id ops false) Q σ G L := by
  intro D a W β h1 h2 h3 h4 h5
  refine wp_region_list (run_list ops.toList [] σ (G ++ L) a W β (h h1) h2 h4 h5 ?_)
  rintro ks' σ' H' a' W' β' ⟨G', L', rfl, g1, g2⟩ q2 q3 q4 q5 q6
  exact ⟨β', σ', G', L', g2, g1, q2, q3.trans h3, q4, q5, q6⟩
def endD (m : Nat) (ops : Array Oper) (Q : QA) (ks : List Kd) (σ : Sl) (H : List AO) : Prop := okKd ops ks = true ∧ ∃ G L, H = G ++ L ∧ GOK m G ∧ Q .normal σ G L
theorem AWP.draw {id : Nat} {ops : Array Oper} (hm : P.follows .mixedOrders = true) (hok : rgOk ops = true) (h : GOK m G → ARun P ops n (endD m ops Q) ops.toList [] σ (G ++ L)) : AWP P n m (.region id ops true) Q σ G L := by
  intro D a W β h1 h2 h3 h4 h5
  refine wp_region_any hm ?_
  obtain ⟨Xs, σs, Hs, kk, e1, e2, e3, e4, e5⟩ := run_seqs _ _ _ _ (h h1)
  have hlen : ops.toList.length = ops.size := Array.length_toList
  rw [hlen] at e4 e5
  have hz : ∀ i, (Array.replicate ops.size false).getD i false = false := fun i => by by_cases h : i < ops.size <;> simp [Array.getD, h]
  have hb : Below W.heap.size W { W with drawn := W.drawn + 1 } := ⟨rfl, rfl, rfl, Nat.le_refl _, fun _ _ => rfl⟩
  obtain ⟨G', L', g0, g1, g2⟩ := e5
  have eS : ∀ k, selS Xs (rgDst ops) (fun j => (Array.replicate ops.size false).getD j false) (σs 0) k = σs 0 := by
    intro k
    induction k with
    | zero => rfl
    | succ k ih => rw [selS_succ, hz, if_neg (by simp)]; exact ih
  have eH : ∀ k, selH Hs kk (fun j => (Array.replicate ops.size false).getD j false) (Hs 0) k = Hs 0 := by
    intro k
    induction k with
    | zero => rfl
    | succ k ih => rw [selH_succ, hz, if_neg (by simp)]; exact ih
  refine run_any hok Xs σs Hs kk (by simpa using e4) (fun i o ho => e3 i o (by simpa using ho)) β W D ?_ ops.size _ a _ β (by simp)
    (by rw [List.filter_eq_self.2 (fun j _ => by rw [hz]; rfl)]; simp) (by intro i hi; rw [hz] at hi; cases hi) h2 h3 (Ext.of_below β hb) ?_ ?_
  · intro a' W' β' q1 q2 q3 q4 q5
    exact ⟨β', _, G', L', g2, g1, q1, q2, q3, by rw [← g0]; exact q4, q5⟩
  · rw [eH, e2]; exact h4.below hb
  · rw [eS, e1]; exact h5.ext (Ext.of_below β hb)
end
/-! ### functions -/
def VReps (β : List Hd) (w : World) (vs : Array Value) (xs : List AV) : Prop := vs.size = xs.length ∧ ∀ (j : Nat) (u : Value) (x : AV), vs[j]? = some u → xs[j]? = some x → VRep β w u x
/-- what a call tells, and what becomes of the things that may be written -/
def FnH (P : Program) (f : FuncId) (args : List AV) (H : List AO) (r : AV) (H' : List AO) : Prop :=
  ∀ (w : World) (β : List Hd) (vs : Array Value), HRel β H w → VReps β w vs args →
    Calls P f vs w fun e w' => ∃ v β', e = .returned v ∧ Ext β w β' w' ∧ HRel β' H' w' ∧ VRep β' w' v r
def FnP (P : Program) (f : FuncId) (args : List AV) (r : AV) : Prop := NoH 0 r ∧ ∀ k, FnH P f args (List.replicate k .guard) r (List.replicate k .guard)
def Hd.toG (h : Hd) : Hd := .guard h.blks
theorem still_toG (β : List Hd) (b : Nat) : Still (β.map Hd.toG) b ↔ Still β b := by
  constructor
  · intro h x hx; exact h x.toG (List.mem_map_of_mem hx)
  · intro h x hx
    obtain ⟨y, hy, rfl⟩ := List.mem_map.1 hx
    exact h y hy
/-- seen by one who may write nothing of these things; some of them he may read -/
theorem VRep.narrow {β β' : List Hd} {w : World} (hl : β.length ≤ β'.length) (hs : ∀ b, Still β b → Still β' b) (hb : ∀ (i : Nat) (x : Hd) (b : Nat), β'[i]? = some x → x.cb ≠ some b) (hr : ∀ (i : Nat) (v : Value) (g : Nat), β'[i]? ≠ some (.row v g)) {v : Value} {X : AV} (h : VRep β w v X) : VRep β' w v X := by
  induction h with
  | int k n => exact .int k n
  | bool b => exact .bool b
  | str s => exact .str s
  | raw v => exact .raw v
  | agg vs cs hl _ ih => exact .agg vs cs hl ih
  | tup vs cs hl _ ih => exact .tup vs cs hl ih
  | slnil => exact .slnil
  | slemp a cap hm => exact .slemp a cap hm
  | lit b n e us hb2 hS hh => exact .lit b n e us hb2 (hs b hS) hh
  | sl b off cap z xs hc hm hbk hS hz hd _ ih => exact .sl b off cap z xs hc hm hbk (hs b hS) hz hd ih
  | pe b off cs hbk hS hd _ ih => exact .pe b off cs hbk (hs b hS) hd ih
  | box b0 i off hi h => exact .box b0 i off (Nat.lt_of_lt_of_le hi hl) (fun x b h2 h3 => absurd h3 (hb i x b h2))
  | own v i g hi h ho => exact .own v i g (Nat.lt_of_lt_of_le hi hl) (fun u g' h2 => absurd h2 (hr i u g')) ho
  | elt v i g off hi h => exact .elt v i g off (Nat.lt_of_lt_of_le hi hl) fun u g' h2 => absurd h2 (hr i u g')
  | fn f us vs fs cs hl1 hl _ _ ih1 ih => exact .fn f us vs fs cs hl1 hl ih1 ih
  | ifc t v x _ ih => exact .ifc t v x ih
  | opt c v x _ h0 ih => exact .opt c v x ih h0
  | adr T v => exact .adr T v
  | buf e s v => exact .buf e s v
theorem VRep.widen {β β' : List Hd} {w : World} (hs : ∀ b, Still β b → Still β' b) {v : Value} {X : AV} (h : VRep β w v X) (hn : NoH 0 X) : VRep β' w v X := by
  induction h with
  | int k n => exact .int k n
  | bool b => exact .bool b
  | str s => exact .str s
  | raw v => exact .raw v
  | agg vs cs hl _ ih => cases hn with | agg _ h => exact .agg vs cs hl fun j u x a b => ih j u x a b (h x (List.mem_of_getElem? b))
  | tup vs cs hl _ ih => cases hn with | tup _ h => exact .tup vs cs hl fun j u x a b => ih j u x a b (h x (List.mem_of_getElem? b))
  | slnil => exact .slnil
  | slemp a cap hm => exact .slemp a cap hm
  | lit b n e us hb2 hS hh => exact .lit b n e us hb2 (hs b hS) hh
  | sl b off cap z xs hc hm2 hb hS hz hd _ ih => cases hn with | sl _ h => exact .sl b off cap z xs hc hm2 hb (hs b hS) hz hd fun i j x y u a c d => ih i j x y u a c d (h x (List.mem_of_getElem? a) y (List.mem_of_getElem? c))
  | pe b off cs hb hS hd _ ih => cases hn with | pe _ h => exact .pe b off cs hb (hs b hS) hd fun j y u c d => ih j y u c d (h y (List.mem_of_getElem? c))
  | box b i off hi h => cases hn with | box _ _ h2 => exact absurd h2 (Nat.not_lt_zero _)
  | own v i g hi h _ => cases hn with | own _ _ h2 => exact absurd h2 (Nat.not_lt_zero _)
  | elt v i g off hi h => cases hn with | elt _ _ _ h2 => exact absurd h2 (Nat.not_lt_zero _)
  | fn f us vs fs cs hl1 hl _ _ ih1 ih => cases hn with | fn _ _ _ h1 h => exact .fn f us vs fs cs hl1 hl (fun j u x a b => ih1 j u x a b (h1 x (List.mem_of_getElem? b))) (fun j u x a b => ih j u x a b (h x (List.mem_of_getElem? b)))
  | ifc t v x _ ih => cases hn with | ifc _ _ h => exact .ifc t v x (ih h)
  | opt c v x _ h0 ih => cases hn with | opt _ _ h => exact .opt c v x (fun e => ih e (h e)) h0
  | adr T v => exact .adr T v
  | buf e s v => exact .buf e s v
theorem pure_call {P : Program} {f : FuncId} {args : List AV} {r : AV} (h : FnP P f args r) {β : List Hd} {H : List AO} {w : World} (hH : HRel β H w) {vs : Array Value} (hv : VReps β w vs args) :
    Calls P f vs w fun e w' => ∃ v, e = .returned v ∧ Below w.heap.size w w' ∧ VRep β w' v r := by
  have hget : ∀ (i : Nat) (x : Hd), (β.map Hd.toG)[i]? = some x → ∃ y, β[i]? = some y ∧ x = .guard y.blks := by
    intro i x hx
    rw [List.getElem?_map, Option.map_eq_some_iff] at hx
    obtain ⟨y, h1, h2⟩ := hx
    exact ⟨y, h1, h2.symm⟩
  have hHc : HRel (β.map Hd.toG) (List.replicate β.length .guard) w := by
    refine ⟨hH.gl.weak (fun b hb => (still_toG β b).2 hb), by simp, fun i o x h1 h2 => ?_, fun i j hi hj b hne h1 h2 h3 => ?_⟩
    · obtain ⟨y, k1, rfl⟩ := hget i x h2
      have : o = .guard := by
        have := List.mem_of_getElem? h1
        exact List.eq_of_mem_replicate this
      subst this
      exact fun b hb => hH.lt k1 hb
    · obtain ⟨y, k1, rfl⟩ := hget i hi h1
      obtain ⟨z, k2, rfl⟩ := hget j hj h2
      exact hH.ap i j y z b hne k1 k2 h3
  refine (h.2 β.length w (β.map Hd.toG) vs hHc ⟨hv.1, fun j u x a b => (hv.2 j u x a b).narrow (by simp) (fun b hb => (still_toG β b).2 hb) ?_ ?_⟩).mono ?_
  · intro i x b hb; obtain ⟨y, _, e⟩ := hget i _ hb; subst e; simp [Hd.cb]
  · intro i v g hb; obtain ⟨y, _, e⟩ := hget i _ hb; cases e
  · rintro e w' ⟨v, β', rfl, k1, k2, k3⟩
    have hbel : Below w.heap.size w w' := by
      refine ⟨k1.os, k1.tape, k1.output, k1.size, fun k hk => ?_⟩
      by_cases hs : Still (β.map Hd.toG) k
      · exact k1.block k hk hs
      · have : ∃ y, y ∈ β ∧ k ∈ y.blks := by
          rw [still_toG] at hs
          unfold Still at hs
          simp only [Classical.not_forall] at hs
          obtain ⟨y, hy, h2⟩ := hs
          exact ⟨y, hy, Classical.not_not.1 h2⟩
        obtain ⟨y, hy, hb⟩ := this
        exact k1.guard y.blks k (List.mem_map.2 ⟨y, hy, rfl⟩) hb hk
    refine ⟨v, rfl, hbel, k3.widen (fun b hb => fun y hy e => ?_) h.1⟩
    have := k1.guard_mem (List.mem_map.2 ⟨y, hy, rfl⟩)
    exact hb _ this e
theorem VRep.take {β : List Hd} {w : World} {m : Nat} (hm : m ≤ β.length) {v : Value} {X : AV} (h : VRep β w v X) (hn : NoH m X) : VRep (β.take m) w v X := by
  have hst : ∀ b, Still β b → Still (β.take m) b := fun b hb x hx => hb x (List.mem_of_mem_take hx)
  induction h with
  | int k n => exact .int k n
  | bool b => exact .bool b
  | str s => exact .str s
  | raw v => exact .raw v
  | agg vs cs hl _ ih => cases hn with | agg _ h => exact .agg vs cs hl fun j u x a b => ih j u x a b (h x (List.mem_of_getElem? b))
  | tup vs cs hl _ ih => cases hn with | tup _ h => exact .tup vs cs hl fun j u x a b => ih j u x a b (h x (List.mem_of_getElem? b))
  | slnil => exact .slnil
  | slemp a cap hm => exact .slemp a cap hm
  | lit b n e us hb2 hS hh => exact .lit b n e us hb2 (hst b hS) hh
  | sl b off cap z xs hc hm2 hb hS hz hd _ ih => cases hn with | sl _ h => exact .sl b off cap z xs hc hm2 hb (hst b hS) hz hd fun i j x y u a c d => ih i j x y u a c d (h x (List.mem_of_getElem? a) y (List.mem_of_getElem? c))
  | pe b off cs hb hS hd _ ih => cases hn with | pe _ h => exact .pe b off cs hb (hst b hS) hd fun j y u c d => ih j y u c d (h y (List.mem_of_getElem? c))
  | box b0 i off hi h => cases hn with | box _ _ h2 => exact .box b0 i off (by rw [List.length_take]; omega) (fun x b hb => h x b (by rw [List.getElem?_take_of_lt h2] at hb; exact hb))
  | own v i g hi h ho => cases hn with | own _ _ h2 => exact .own v i g (by rw [List.length_take]; omega) (fun b g' hb => h b g' (by rw [List.getElem?_take_of_lt h2] at hb; exact hb)) ho
  | elt v i g off hi h => cases hn with | elt _ _ _ h2 => exact .elt v i g off (by rw [List.length_take]; omega) fun b g' hb => h b g' (by rw [List.getElem?_take_of_lt h2] at hb; exact hb)
  | fn f us vs fs cs hl1 hl _ _ ih1 ih => cases hn with | fn _ _ _ h1 h => exact .fn f us vs fs cs hl1 hl (fun j u x a b => ih1 j u x a b (h1 x (List.mem_of_getElem? b))) (fun j u x a b => ih j u x a b (h x (List.mem_of_getElem? b)))
  | ifc t v x _ ih => cases hn with | ifc _ _ h => exact .ifc t v x (ih h)
  | opt c v x _ h0 ih => cases hn with | opt _ _ h => exact .opt c v x (fun e => ih e (h e)) h0
  | adr T v => exact .adr T v
  | buf e s v => exact .buf e s v
theorem Ext.take {β β' : List Hd} {w w' : World} (h : Ext β w β' w') : Ext β w (β'.take β.length) w' :=
  ⟨h.os, h.tape, h.output, h.size, h.block, fun k hk hs x hx => h.apart k hk hs x (List.mem_of_mem_take hx), fun i x hx => by
    have hi := (List.getElem?_eq_some_iff.1 hx).1
    rw [List.getElem?_take_of_lt hi]; exact h.hd i x hx, h.guard⟩
theorem Still.take {β : List Hd} {m b : Nat} (h : Still β b) : Still (β.take m) b := fun x hx => h x (List.mem_of_mem_take hx)
theorem HRel.take {β : List Hd} {G L : List AO} {w : World} (h : HRel β (G ++ L) w) (hg : ∀ o, o ∈ G → ∀ x, x ∈ o.conts → NoH G.length x) : HRel (β.take G.length) G w := by
  have hlen := h.len
  rw [List.length_append] at hlen
  refine ⟨h.gl.weak (fun b hb x hx => hb x (List.mem_of_mem_take hx)), by rw [List.length_take]; omega, fun i o x h1 h2 => ?_, fun i j hi hj b hne h1 h2 => h.ap i j hi hj b hne ?_ ?_⟩
  · have hi := (List.getElem?_eq_some_iff.1 h1).1
    have h3 := h.ob i o x (by rw [List.getElem?_append_left hi]; exact h1) (by rw [List.getElem?_take_of_lt hi] at h2; exact h2)
    have hmem := List.mem_of_getElem? h1
    cases x <;> cases o <;> first | exact h3.elim | skip
    · obtain ⟨arr, T, k1, k2, k3, k4⟩ := h3
      exact ⟨arr, T, k1, k2, fun j u y a c => (k3 j u y a c).take (by omega) (hg _ hmem y (List.mem_of_getElem? c)), k4⟩
    · obtain ⟨hgg, us, k1, k2, k3⟩ := h3
      exact ⟨hgg, us, k1, k2, fun j u y a c => (k3 j u y a c).take (by omega) (hg _ hmem y (List.mem_of_getElem? c))⟩
    · trivial
    · exact h3
    · obtain ⟨arr, T, k1, k2, k3, k4⟩ := h3
      exact ⟨arr, T, k1, k2, fun j u y a c => (k3 j u y a c).take (by omega) (hg _ hmem y (List.mem_of_getElem? c)), k4⟩
  · have := (List.getElem?_eq_some_iff.1 h1).1
    rw [List.length_take] at this
    rw [List.getElem?_take_of_lt (by omega)] at h1; exact h1
  · have := (List.getElem?_eq_some_iff.1 h2).1
    rw [List.length_take] at this
    rw [List.getElem?_take_of_lt (by omega)] at h2; exact h2
/-- what a function's results are -/
def resAV (G L : List AO) (σ : Sl) : ResultVar → Option AV
  | .tmp t => look σ t
  | .cell _ _ => none
def zipS (vs : List AV) (k : Nat) : Sl := match vs with | [] => [] | x :: l => (k, x) :: zipS l (k + 1)
theorem look_zip : ∀ (xs : List AV) (k t : Nat) (X : AV), look (zipS xs k) t = some X → k ≤ t ∧ xs[t - k]? = some X := by
  intro xs
  induction xs with
  | nil => intro k t X h; cases h
  | cons x xs ih =>
    intro k t X h
    change (bif Nat.beq k t then some x else look (zipS xs (k + 1)) t) = some X at h
    cases hb : Nat.beq k t with
    | true =>
      rw [hb] at h
      obtain rfl := Nat.eq_of_beq_eq_true hb
      simpa using h
    | false =>
      rw [hb] at h
      obtain ⟨h1, h2⟩ := ih (k + 1) t X h
      refine ⟨by omega, ?_⟩
      rw [show t - k = (t - (k + 1)) + 1 by omega, List.getElem?_cons_succ]; exact h2
/-- the results, when they stand for r -/
def Tells (P : Program) (fn : Func) (β : List Hd) (a : Act) (W : World) (r : AV) : Prop := ∃ v, (results fn a.tmps).run P W = .ok v W ∧ VRep β W v r
/-- what holds at a function's end: r is told -/
def endF (P : Program) (fn : Func) (r : AV) (G' : List AO) : QA := fun e σ G L => (e = .normal ∨ e = .ret) ∧ G = G' ∧ NoH G.length r ∧
  ∀ (β : List Hd) (a : Act) (W : World), HRel β (G ++ L) W → SRep β W a σ → Tells P fn β a W r
theorem FnH.of0 {P : Program} {f : FuncId} {fn : Func} {c : Code} {args : List AV} {G G' : List AO} {r : AV} {n : Nat} (hf : P.funcs[f]? = some fn) (hb : fn.body = some c) (hn : fn.ntmps = n) (hna : args.length ≤ n)
    (h : GOK G.length G → AWP P n G.length c (endF P fn r G') (zipS args 0) G []) : FnH P f args G r G' := by
  intro w β vs hH hv
  refine calls_of_wp hf hb (Code.wp_mono ?_ (h hH.gok [] { tmps := vs ++ Array.replicate (fn.ntmps - vs.size) undef, defers := [] } w β hH.gok ?_ rfl (by rw [List.append_nil]; exact hH) ?_))
  · intro e a' W' ⟨β', σ', G2, L', k1, k2, k3, k4, k5, k6, k7⟩
    obtain ⟨he, rfl, hnh, ht⟩ := k1
    obtain ⟨v, hr, hvr⟩ := ht β' a' W' k6 k7
    have hl : G2.length = β.length := by rw [k2.1, hH.len]
    have hfin : ∃ v' β'', Ending.returned v = Ending.returned v' ∧ Ext β w β'' W' ∧ HRel β'' G2 W' ∧ VRep β'' W' v' r := by
      refine ⟨v, β'.take β.length, rfl, k5.take, ?_, ?_⟩
      · rw [← hl]; exact k6.take (fun o ho x hx => by rw [k2.1]; exact k2.2 o ho x hx)
      · have hl2 := k6.len
        rw [List.length_append] at hl2
        exact hvr.take (by omega) (by rw [← hl]; exact hnh)
    rcases he with rfl | rfl
    · exact ⟨k4, v, hr, hfin⟩
    · exact ⟨k4, v, hr, hfin⟩
  · rw [Array.size_append, Array.size_replicate, hv.1, hn]; omega
  · intro t X ht
    obtain ⟨_, h2⟩ := look_zip _ _ _ _ ht
    rw [Nat.sub_zero] at h2
    have hlt : t < vs.size := by rw [hv.1]; exact (List.getElem?_eq_some_iff.1 h2).1
    refine ⟨vs[t], ?_, hv.2 t _ _ (Array.getElem?_eq_getElem hlt) h2⟩
    show (vs ++ _)[t]? = _
    rw [Array.getElem?_append_left hlt, Array.getElem?_eq_getElem hlt]
theorem FnP.of {P : Program} {f : FuncId} {fn : Func} {c : Code} {args : List AV} {r : AV} {n : Nat} (hf : P.funcs[f]? = some fn) (hb : fn.body = some c) (hn : fn.ntmps = n) (hna : args.length ≤ n) (hr : NoH 0 r)
    (h : ∀ G, GOK G.length G → AWP P n G.length c (endF P fn r G) (zipS args 0) G []) : FnP P f args r := ⟨hr, fun k => FnH.of0 hf hb hn hna (h _)⟩
/-- results that lie in slots -/
theorem Tells.one {P : Program} {fn : Func} {β : List Hd} {a : Act} {W : World} {σ : Sl} {r : AV} {t : Nat} (hs : SRep β W a σ) (hr : fn.results = #[.tmp t]) (ht : look σ t = some r) : Tells P fn β a W r := by
  obtain ⟨u, h1, h2⟩ := hs t r ht
  refine ⟨a.tmps.getD t undef, results_tmp hr _ _ _, ?_⟩
  have : a.tmps.getD t undef = u := by rw [Array.getD_eq_getD_getElem?, h1]; rfl
  rw [this]; exact h2
theorem Tells.none {P : Program} {fn : Func} {β : List Hd} {a : Act} {W : World} (hr : fn.results = #[]) : Tells P fn β a W (.tup []) :=
  ⟨_, results_none hr _ _ _, .tup _ _ rfl (fun j u x h => by simp at h)⟩
def evT (σ : Sl) : List Nat → Option (List AV)
  | [] => some []
  | t :: l => match look σ t, evT σ l with | some x, some xs => some (x :: xs) | _, _ => none
theorem evT_spec {β : List Hd} {W : World} {a : Act} {σ : Sl} (hs : SRep β W a σ) : ∀ (ts : List Nat) (xs : List AV), evT σ ts = some xs → ts.length = xs.length ∧ ∀ (j : Nat) (t : Nat) (x : AV), ts[j]? = some t → xs[j]? = some x → VRep β W (a.tmps.getD t undef) x := by
  intro ts
  induction ts with
  | nil => intro xs h; cases h; exact ⟨rfl, fun j t x h => by simp at h⟩
  | cons t ts ih =>
    intro xs h
    unfold evT at h
    split at h
    · rename_i x xs' h1 h2
      cases h
      obtain ⟨i1, i2⟩ := ih xs' h2
      refine ⟨by simp [i1], fun j u y hj hy => ?_⟩
      cases j with
      | zero =>
        simp at hj hy
        subst hj; subst hy
        obtain ⟨v, k1, k2⟩ := hs t x h1
        have : a.tmps.getD t undef = v := by rw [Array.getD_eq_getD_getElem?, k1]; rfl
        rw [this]; exact k2
      | succ j => exact i2 j u y (by simpa using hj) (by simpa using hy)
    · cases h
theorem Tells.many {P : Program} {fn : Func} {β : List Hd} {a : Act} {W : World} {σ : Sl} {rs : List AV} {ts : List Nat} (hs : SRep β W a σ) (hr : fn.results = (ts.map ResultVar.tmp).toArray) (h1 : ts.length ≠ 1) (ht : evT σ ts = some rs) : Tells P fn β a W (.tup rs) := by
  obtain ⟨e1, e2⟩ := evT_spec hs ts rs ht
  refine ⟨.tuple (ts.map fun t => a.tmps.getD t undef).toArray, ?_, ?_⟩
  · unfold results
    rw [hr]
    simp only [List.mapM_toArray, List.mapM_map, Function.comp_def]
    simp [h1]
  · refine .tup _ _ (by simp [e1]) fun j u x hj hx => ?_
    simp only [List.getElem?_toArray, List.getElem?_map, Option.map_eq_some_iff] at hj
    obtain ⟨t, ht, rfl⟩ := hj
    exact e2 j t x ht hx
theorem thenA_n {next : Sl → List AO → List AO → Prop} {Q : QA} {σ : Sl} {G L : List AO} (h : next σ G L) : thenA next Q .normal σ G L := h
theorem thenA_x {next : Sl → List AO → List AO → Prop} {Q : QA} {σ : Sl} {G L : List AO} {i : Nat} (h : Q (.exit i) σ G L) : thenA next Q (.exit i) σ G L := h
theorem thenA_r {next : Sl → List AO → List AO → Prop} {Q : QA} {σ : Sl} {G L : List AO} (h : Q .ret σ G L) : thenA next Q .ret σ G L := h
theorem blockA_n {id : Nat} {Q : QA} {σ : Sl} {G L : List AO} (h : Q .normal σ G L) : blockA id Q .normal σ G L := h
theorem blockA_r {id : Nat} {Q : QA} {σ : Sl} {G L : List AO} (h : Q .ret σ G L) : blockA id Q .ret σ G L := h
theorem blockA_h {id : Nat} {Q : QA} {σ : Sl} {G L : List AO} (h : Q .normal σ G L) : blockA id Q (.exit id) σ G L := by unfold blockA; simp only [if_true]; exact h
theorem blockA_o {id i : Nat} {Q : QA} {σ : Sl} {G L : List AO} (hne : i ≠ id) (h : Q (.exit i) σ G L) : blockA id Q (.exit i) σ G L := by unfold blockA; simp only [if_neg hne]; exact h
/-- fewer slots, spelt as one likes -/
inductive SubS (σ : Sl) : Sl → Prop where
  | nil : SubS σ []
  | cons {t : Nat} {X : AV} {l : Sl} (h : look σ t = some X) (r : SubS σ l) : SubS σ ((t, X) :: l)
theorem SubS.look {σ σ' : Sl} (h : SubS σ σ') : ∀ t X, look σ' t = some X → look σ t = some X := by
  induction h with
  | nil => intro t X h; cases h
  | @cons k Y l h1 _ ih =>
    intro t X ht
    change (bif Nat.beq k t then some Y else Go.Proofs.Ytopmppnnihdnaaa.look l t) = some X at ht
    cases hb : Nat.beq k t with
    | true => rw [hb] at ht; obtain rfl := Nat.eq_of_beq_eq_true hb; rw [h1]; exact ht
    | false => rw [hb] at ht; exact ih t X ht
theorem AWP.to {P : Program} {n m : Nat} {c : Code} {Q : QA} {σ : Sl} {G L : List AO} (σ' : Sl) (hs : SubS σ σ') (h : AWP P n m c Q σ' G L) : AWP P n m c Q σ G L := h.weak hs.look
/-- one piece behind the other, with what holds between them -/
theorem AWP.cut {P : Program} {n m : Nat} {x y : Code} {Q : QA} {σ : Sl} {G L : List AO} (R : Sl → List AO → List AO → Prop) (h : AWP P n m x (thenA R Q) σ G L) (h2 : ∀ σ G L, GOK m G → R σ G L → AWP P n m y Q σ G L) : AWP P n m (.seq x y) Q σ G L := by
  refine AWP.seq fun D a W β h1 h3 h4 h5 h6 => Code.wp_mono (fun e a' W' hp => ?_) (h D a W β h1 h3 h4 h5 h6)
  obtain ⟨b, s, g, l, k1, k2, k3⟩ := hp
  refine ⟨b, s, g, l, ?_, k2, k3⟩
  cases e <;> first | exact h2 _ _ _ k2 k1 | exact k1
section
variable {m : Nat}
@[simp] theorem noH_int (k : IntKind) (i : Int) : NoH m (.int k i) := .int k i
@[simp] theorem noH_bool (b : Bool) : NoH m (.bool b) := .bool b
@[simp] theorem noH_str (s : ByteArray) : NoH m (.str s) := .str s
@[simp] theorem noH_lit (n : Nat) (e : TypeId) (us : List Value) : NoH m (.lit n e us) := .lit n e us
@[simp] theorem noH_raw (v : Value) : NoH m (.raw v) := .raw v
@[simp] theorem noH_agg (cs : List AV) : NoH m (.agg cs) ↔ ∀ x, x ∈ cs → NoH m x := ⟨fun h => by cases h with | agg _ h => exact h, .agg cs⟩
@[simp] theorem noH_tup (cs : List AV) : NoH m (.tup cs) ↔ ∀ x, x ∈ cs → NoH m x := ⟨fun h => by cases h with | tup _ h => exact h, .tup cs⟩
@[simp] theorem noH_pe (cs : List AV) : NoH m (.pe cs) ↔ ∀ x, x ∈ cs → NoH m x := ⟨fun h => by cases h with | pe _ h => exact h, .pe cs⟩
@[simp] theorem noH_sl (cs : List AV) : NoH m (.sl cs) ↔ ∀ x, x ∈ cs → ∀ y, y ∈ x.cells → NoH m y := ⟨fun h => by cases h with | sl _ h => exact h, .sl cs⟩
@[simp] theorem noH_box (i off : Nat) : NoH m (.box i off) ↔ i < m := ⟨fun h => by cases h with | box _ _ h => exact h, .box i off⟩
@[simp] theorem noH_adr (T : TypeId) : NoH m (.adr T) := .adr T
@[simp] theorem noH_buf (e : TypeId) (s : ByteArray) : NoH m (.buf e s) := .buf e s
@[simp] theorem noH_own (i g : Nat) : NoH m (.own i g) ↔ i < m := ⟨fun h => by cases h with | own _ _ h => exact h, .own i g⟩
@[simp] theorem noH_ifc (t : TypeId) (x : AV) : NoH m (.ifc t x) ↔ NoH m x := ⟨fun h => by cases h with | ifc _ _ h => exact h, .ifc t x⟩
@[simp] theorem noH_fn (f : Fn) (fs cs : List AV) : NoH m (.fn f fs cs) ↔ (∀ x, x ∈ fs → NoH m x) ∧ ∀ x, x ∈ cs → NoH m x := ⟨fun h => by cases h with | fn _ _ _ h1 h => exact ⟨h1, h⟩, fun h => .fn f fs cs h.1 h.2⟩
end
/-- a loop: what holds, by a letter of its own -/
theorem AWP.rounds {P : Program} {n m : Nat} {c : Code} {Q : QA} {σ : Sl} {G L : List AO} {α : Type} (I : α → Prop) (lit : α → Sl) (Lf : α → List AO) (μ : α → Nat) (len : Nat) (a0 : α) (h0 : I a0) (hs : SubS σ (lit a0)) (hL : L = Lf a0)
    (hlen : ∀ a, (Lf a).length = len) (hnh : ∀ a, (∀ p, p ∈ lit a → NoH (m + len) p.2) ∧ ∀ o, o ∈ Lf a → ∀ x, x ∈ o.conts → NoH (m + len) x)
    (round : ∀ a, I a → AWP P n m c (thenA (fun σ' G' L' => G' = G ∧ ∃ a' J, I a' ∧ SubS σ' (lit a') ∧ L' = Lf a' ++ J ∧ μ a' < μ a) Q) (lit a) G (Lf a)) : AWP P n m (.loop c) Q σ G L := by
  subst hL
  refine AWP.to (lit a0) hs ?_
  intro D
  have key : ∀ N a, μ a = N → I a → ∀ σ, (∀ t X, look (lit a) t = some X → look σ t = some X) → ∀ (act : Act) (W : World) (β : List Hd), GOK m G → act.tmps.size = n → act.defers = D → HRel β (G ++ Lf a) W → SRep β W act (lit a) → ∀ (b : Frame) (k : List Item) (cs : List Frame),
      ∃ e a' w', APost D n m β W Q e a' w' ∧ Arrives P (lone (b.at act (.code c :: .inLoop c :: k)) cs W) b k cs e a' w' := by
    intro N
    induction N using Nat.strongRecOn with
    | _ N ih =>
      intro x hN hI σ hsub act W β h1 h2 h3 h4 h5 b k cs
      obtain ⟨e, a₁, w₁, hq, harr⟩ := round x hI D act W β h1 h2 h3 h4 h5 b (.inLoop c :: k) cs
      obtain ⟨β', σ', G', L', k1, k2, k3, k4, k5, k6, k7⟩ := hq
      cases e with
      | normal =>
        obtain ⟨rfl, x', J, hI', hsub', rfl, hlt⟩ := k1
        have e1 : (G' ++ Lf x').length = m + len := by rw [List.length_append, hlen, k2.1]
        have e2 : β.length = (G' ++ Lf x').length := by rw [h4.len, e1, List.length_append, hlen, k2.1]
        rw [← List.append_assoc] at k6
        have hH := k6.take (fun o ho y hy => by
          rw [e1]
          rcases List.mem_append.1 ho with ho | ho
          · exact (k2.2 o ho y hy).mono (by omega)
          · exact (hnh x').2 o ho y hy)
        have hx := k5.take
        rw [e2] at hx
        have hl := k6.len
        have hle : (G' ++ Lf x').length ≤ β'.length := by rw [hl]; simp
        have hS : SRep (β'.take (G' ++ Lf x').length) w₁ a₁ (lit x') := by
          intro t X ht
          obtain ⟨u, q1, q2⟩ := k7 t X (hsub'.look t X ht)
          refine ⟨u, q1, q2.take hle ?_⟩
          rw [e1]
          have : ∀ (l : Sl), look l t = some X → ∃ p, p ∈ l ∧ p.2 = X := by
            intro l
            induction l with
            | nil => intro h; cases h
            | cons p l ihl =>
              intro h
              obtain ⟨k0, Y⟩ := p
              change (bif Nat.beq k0 t then some Y else look l t) = some X at h
              cases hb : Nat.beq k0 t with
              | true => rw [hb] at h; cases h; exact ⟨_, List.mem_cons_self, rfl⟩
              | false => rw [hb] at h; obtain ⟨p, m1, m2⟩ := ihl h; exact ⟨p, List.mem_cons_of_mem _ m1, m2⟩
          obtain ⟨p, m1, m2⟩ := this _ ht
          rw [← m2]; exact (hnh x').1 p m1
        obtain ⟨e₂, a₂, w₂, hq₂, harr₂⟩ := ih _ (hN ▸ hlt) x' rfl hI' σ' hsub'.look a₁ w₁ _ k2 k3 k4 hH hS b k cs
        exact ⟨e₂, a₂, w₂, hq₂.ext hx, .of_steps (Steps.trans harr (.one step_inLoop)) harr₂⟩
      | exit id => exact ⟨_, a₁, w₁, ⟨β', σ', G', L', k1, k2, k3, k4, k5, k6, k7⟩, .pass (x := .inLoop c) rfl (fun _ _ => .inl (by simp)) harr⟩
      | goto l => exact ⟨_, a₁, w₁, ⟨β', σ', G', L', k1, k2, k3, k4, k5, k6, k7⟩, .pass (x := .inLoop c) rfl (fun _ _ => .inl (by simp)) harr⟩
      | ret => exact ⟨_, a₁, w₁, ⟨β', σ', G', L', k1, k2, k3, k4, k5, k6, k7⟩, .pass (x := .inLoop c) rfl (fun _ _ => .inl (by simp)) harr⟩
      | panic ch => exact ⟨_, a₁, w₁, ⟨β', σ', G', L', k1, k2, k3, k4, k5, k6, k7⟩, .pass (x := .inLoop c) rfl (fun _ _ => .inl (by simp)) harr⟩
      | outgrown => exact ⟨_, a₁, w₁, ⟨β', σ', G', L', k1, k2, k3, k4, k5, k6, k7⟩, .pass (x := .inLoop c) rfl (fun _ _ => .inl (by simp)) harr⟩
  intro act W β h1 h2 h3 h4 h5 b k cs
  obtain ⟨e, a', w', hq, harr⟩ := key _ a0 rfl h0 (lit a0) (fun t X h => h) act W β h1 h2 h3 h4 h5 b k cs
  exact ⟨e, a', w', hq, .of_steps (.one step_loop) harr⟩
end Go.Proofs.Ytopmppnnihdnaaa
