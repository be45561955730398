/- The abstract machine: slices that grow. -/
import Derived.Test.YtopmppnnihdnaaaAmCall
import Derived.Laws.AppendOwnNone
namespace Go.Proofs.Ytopmppnnihdnaaa
set_option linter.unusedVariables false
set_option linter.unusedSimpArgs false
open Go.RowKit
theorem flat_at {z : Nat} : ∀ (ys : List AV), (∀ x, x ∈ ys → x.cells.length = z) → ∀ (i j : Nat) (x y : AV), ys[i]? = some x → x.cells[j]? = some y → (ys.flatMap AV.cells)[i * z + j]? = some y := by
  intro ys
  induction ys with
  | nil => intro _ i j x y h1; simp at h1
  | cons x0 ys ih =>
    intro hz2 i j x y h1 h2
    rw [List.flatMap_cons]
    have hl0 := hz2 x0 List.mem_cons_self
    cases i with
    | zero =>
      simp at h1; subst h1
      have hj := (List.getElem?_eq_some_iff.1 h2).1
      rw [Nat.zero_mul, Nat.zero_add, List.getElem?_append_left hj]; exact h2
    | succ i =>
      rw [List.getElem?_append_right (by rw [hl0, Nat.add_mul]; omega), hl0, show (i + 1) * z + j - z = i * z + j by rw [Nat.add_mul]; omega]
      exact ih (fun x hx => hz2 x (List.mem_cons_of_mem _ hx)) i j x y (by simpa using h1) h2
theorem flat_len' {z : Nat} : ∀ (ys : List AV), (∀ x, x ∈ ys → x.cells.length = z) → (ys.flatMap AV.cells).length = ys.length * z := by
  intro ys
  induction ys with
  | nil => intro _; simp
  | cons x ys ih => intro h; rw [List.flatMap_cons, List.length_append, ih (fun y hy => h y (List.mem_cons_of_mem _ hy)), h x List.mem_cons_self, List.length_cons, Nat.add_mul]; omega
/-- the cells of a slice, one behind the other -/
theorem sl_cells {β : List Hd} {W : World} {z : Nat} {b : Nat} : ∀ (ys : List AV) (off : Nat), (∀ x, x ∈ ys → x.cells.length = z) →
    (∀ (i j : Nat) (x y : AV), ys[i]? = some x → x.cells[j]? = some y → ∃ u, W.cell? ⟨b, off + i * z + j, none⟩ = some u) →
    (∀ (i j : Nat) (x y : AV) (u : Value), ys[i]? = some x → x.cells[j]? = some y → W.cell? ⟨b, off + i * z + j, none⟩ = some u → VRep β W u y) →
    ∃ news : List Value, news.length = ys.length * z ∧ (∀ (j : Nat) (u : Value), news[j]? = some u → W.cell? ⟨b, off + j, none⟩ = some u) ∧ ∀ (j : Nat) (u : Value) (y : AV), news[j]? = some u → (ys.flatMap AV.cells)[j]? = some y → VRep β W u y := by
  intro ys
  induction ys with
  | nil => intro off _ _ _; exact ⟨[], by simp, fun j u h => by simp at h, fun j u y h => by simp at h⟩
  | cons x ys ih =>
    intro off hz hd h
    have hx := hz x List.mem_cons_self
    obtain ⟨vs, h1, h2, h3⟩ := cells_list W b off x.cells β (fun j y hy => by have := hd 0 j x y rfl hy; simpa using this) (fun j y u hy hu => by have := h 0 j x y u rfl hy (by simpa using hu); exact this)
    obtain ⟨news, k1, k2, k3⟩ := ih (off + z) (fun y hy => hz y (List.mem_cons_of_mem _ hy)) (fun i j y w hy hw => by
      have := hd (i + 1) j y w (by simpa using hy) hw
      rw [show off + z + i * z + j = off + (i + 1) * z + j by rw [Nat.add_mul]; omega]; exact this) (fun i j y w u hy hw hu => by
      rw [show off + z + i * z + j = off + (i + 1) * z + j by rw [Nat.add_mul]; omega] at hu
      exact h (i + 1) j y w u (by simpa using hy) hw hu)
    refine ⟨vs ++ news, by rw [List.length_append, h1, k1, hx, List.length_cons, Nat.add_mul]; omega, fun j u hj => ?_, fun j u y hj hy => ?_⟩
    · by_cases hlt : j < z
      · rw [List.getElem?_append_left (by rw [h1, hx]; exact hlt)] at hj; exact h2 j u hj
      · rw [List.getElem?_append_right (by rw [h1, hx]; omega), h1, hx] at hj
        have := k2 _ u hj
        rw [show off + z + (j - z) = off + j by omega] at this; exact this
    · rw [List.flatMap_cons] at hy
      by_cases hlt : j < z
      · rw [List.getElem?_append_left (by rw [h1, hx]; exact hlt)] at hj
        rw [List.getElem?_append_left (by rw [hx]; exact hlt)] at hy
        exact h3 j u y hj hy
      · rw [List.getElem?_append_right (by rw [h1, hx]; omega), h1, hx] at hj
        rw [List.getElem?_append_right (by rw [hx]; omega), hx] at hy
        exact k3 _ u y hj hy
/-- a thing is changed, perhaps into a new block -/
theorem HRel.change {β : List Hd} {H : List AO} {w w' : World} (h : HRel β H w) {i : Nat} {x x' : Hd} (hi : β[i]? = some x) (hto : x.to x') (hng : ∀ bs, x ≠ .guard bs) (hos : w'.os = w.os) (htp : w'.tape = w.tape) (hout : w'.output = w.output) (hsz : w.heap.size ≤ w'.heap.size)
    (hbl : ∀ k, k < w.heap.size → k ∉ x.blks → w'.heap[k]? = w.heap[k]?) (hb : ∀ b, b ∈ x'.blks → b ∈ x.blks ∨ w.heap.size ≤ b) {o : AO}
    (ho : Ext β w (β.set i x') w' → ORep (β.set i x') w' x' o) : Ext β w (β.set i x') w' ∧ HRel (β.set i x') (H.set i o) w' := by
  have hlt := (List.getElem?_eq_some_iff.1 hi).1
  have hext : Ext β w (β.set i x') w' := by
    refine ⟨hos, htp, hout, hsz, fun k hk hs => hbl k hk (hs _ (List.mem_of_getElem? hi)), fun k hk hs y hy => ?_, fun j y hy => ?_, ?_⟩
    · rcases List.mem_or_eq_of_mem_set hy with hy | rfl
      · exact hs y hy
      · intro e
        rcases hb k e with h1 | h1
        · exact hs _ (List.mem_of_getElem? hi) h1
        · omega
    · by_cases e : i = j
      · subst e
        rw [hi] at hy; cases hy
        exact ⟨_, List.getElem?_set_self hlt, hto⟩
      · exact ⟨y, by rw [List.getElem?_set_ne e]; exact hy, y.to_refl⟩
    · intro bs b hb' hm hltb
      refine hbl b hltb fun e => ?_
      obtain ⟨j, hj, ej⟩ := List.mem_iff_getElem.1 hb'
      have hj2 : β[j]? = some (.guard bs) := by rw [List.getElem?_eq_getElem hj, ej]
      have hne : i ≠ j := fun e2 => by subst e2; rw [hi] at hj2; cases hj2; exact hng _ rfl
      exact h.ap i j _ _ b hne hi hj2 e hm
  refine ⟨hext, ⟨h.gl.ext hext, by simp [h.len], fun j o' y h1 h2 => ?_, fun j k hj hk b hne h1 h2 h3 => ?_⟩⟩
  · by_cases e : i = j
    · subst e
      rw [List.getElem?_set_self (by rw [← h.len]; exact hlt)] at h1
      rw [List.getElem?_set_self hlt] at h2
      cases h1; cases h2
      exact ho hext
    · rw [List.getElem?_set_ne e] at h1 h2
      refine (h.ob j o' y h1 h2).ext hext fun b hb' hlt' => hbl b hlt' fun e2 => ?_
      exact h.ap i j _ y b e hi h2 e2 hb'
  · by_cases e1 : i = j <;> by_cases e2 : i = k
    · omega
    · subst e1
      rw [List.getElem?_set_self hlt] at h1; cases h1
      rw [List.getElem?_set_ne e2] at h2
      intro e
      rcases hb b h3 with hb | hb
      · exact h.ap i k _ hk b e2 hi h2 hb e
      · have := h.lt h2 e; omega
    · subst e2
      rw [List.getElem?_set_self hlt] at h2; cases h2
      rw [List.getElem?_set_ne e1] at h1
      intro e
      rcases hb b e with hb | hb
      · exact h.ap i j _ hj b e1 hi h1 hb h3
      · have := h.lt h1 h3; omega
    · rw [List.getElem?_set_ne e1] at h1
      rw [List.getElem?_set_ne e2] at h2
      exact h.ap j k hj hk b hne h1 h2 h3
/-- a slice that has grown -/
theorem HRel.grow {β : List Hd} {H : List AO} {w w' : World} (h : HRel β H w) {i g : Nat} {v v' : Value} (hi : β[i]? = some (.row v g)) (hgr : w.grownBy w' v.ownBlock) (hb : v'.ownBlock = v.ownBlock ∨ v'.ownBlock = some w.heap.size) {o : AO}
    (ho : Ext β w (β.set i (.row v' (g + 1))) w' → ORep (β.set i (.row v' (g + 1))) w' (.row v' (g + 1)) o) : Ext β w (β.set i (.row v' (g + 1))) w' ∧ HRel (β.set i (.row v' (g + 1))) (H.set i o) w' := by
  refine h.change hi (x' := .row v' (g + 1)) (Or.inl (Nat.lt_succ_self g)) (fun _ e => by cases e) hgr.os hgr.tape hgr.output hgr.size (fun k hk hs => hgr.block k hk fun e => hs (opt_mem.2 e.symm)) (fun b hb' => ?_) ho
  have := opt_mem.1 hb'
  rcases hb with hb | hb
  · exact .inl (opt_mem.2 (by rw [← hb]; exact this))
  · rw [hb] at this; cases this; exact .inr (Nat.le_refl _)
def Ti (P : Program) (t : TypeId) (zv : Value) (z by_ : Nat) : Prop := (P.info? t).map (fun i => (i.zero, i.size, i.bytes)) = some (some zv, z, by_)
theorem Ti.sz {P : Program} {t : TypeId} {zv : Value} {z b : Nat} (h : Ti P t zv z b) : Sz P t z := by
  unfold Ti at h; unfold Sz
  cases hi : P.info? t with
  | none => rw [hi] at h; cases h
  | some i => rw [hi] at h; simp at h; simp [h.2.1]
theorem Ti.zv {P : Program} {t : TypeId} {zv : Value} {z b : Nat} (h : Ti P t zv z b) : Zv P t zv := by
  unfold Ti at h; unfold Zv
  cases hi : P.info? t with
  | none => rw [hi] at h; cases h
  | some i => rw [hi] at h; simp at h; simp [h.1]
theorem append_none_run {P : Program} {W : World} {t ty e : TypeId} {z base : Nat} {v : Value} {k : Nat} {xs : List Value} (hu : P.underlying t = some (.slice e)) (hz : Sz P e z) (h : W.ownsRow base e z v k xs) :
    (Builtin.append_ #[t, t] ty #[v, .slice none 0 0]).run P W = .ok v W := by
  rcases h.2 with ⟨rfl, rfl⟩ | ⟨g, cap, cur, rfl, _, _, hc, _⟩
  · simp [Builtin.append_, run_underlying hu, hz.run, Builtin.lenOf, run_firstCells_none]
  · simp [Builtin.append_, run_underlying hu, hz.run, Builtin.lenOf, run_firstCells_none, hc, storeCells]
section
variable {P : Program} {ops : Array Oper} {n m : Nat} {QQ : List Kd → Sl → List AO → Prop} {l : List Oper} {ks : List Kd} {σ : Sl} {G L H : List AO} {o : Oper} {gd : Bool}
/-- a slice of the function's own begins: nil -/
theorem ARun.nilOwn {c : Operand} {e : TypeId} {z j : Nat} {d : Option Tmp} {Y : AV} (hm : GOK m G) (hj : L.length = j) (ho : (o.op = .assign c ∨ o.op = .move c) ∧ evS σ c = some (.sl [])) (hv : ∀ a : Act, a.eval c = .slice none 0 0) (hd : o.dst = d) (hn : dstLt n d = true) (hg : gdS ops σ o.guard = some true) (hY : optA o.guard true (.own (m + j) 0) = Y)
    (hr : ARun P ops n QQ l (ks ++ [.write]) (putS σ d Y) (G ++ (L ++ [.row 0 e z []]))) : ARun P ops n QQ (o :: l) ks σ (G ++ L) := by
  refine ARun.write hd hn hg hY (fun a W β hHr hl => ?_) hr
  have hlen : β.length = m + j := by rw [hHr.len, List.length_append, hm.1, hj]
  have hsn := hHr.snoc (w' := W) (Below.refl _ _) (x := .row (.slice none 0 0) 0) (o := .row 0 e z []) ⟨rfl, [], World.ownsRow_nil W 0 e z, (fun x hx => by cases hx), (fun q u y h1 => by simp at h1)⟩ (fun b hb => by simp [Hd.blks, Value.ownBlock] at hb)
  refine ⟨.slice none 0 0, W, β ++ [.row (.slice none 0 0) 0], ?_, hsn.1, by rw [← List.append_assoc]; exact hsn.2, .own _ _ _ (by rw [List.length_append, hlen]; simp) fun u g' hb => ?_⟩
  · rcases ho.1 with ho | ho <;> simp [execOp, ho, hv]
  · rw [List.getElem?_append_right (by omega), hlen, Nat.sub_self] at hb
    cases hb; exact ⟨Nat.le_refl _, fun _ => rfl⟩
theorem VRep.own_at {β : List Hd} {H : List AO} {W : World} {v : Value} {i g : Nat} {e : TypeId} {z : Nat} {xs : List AV} (h : VRep β W v (.own i g)) (hH : HRel β H W) (hi : H[i]? = some (.row g e z xs)) :
    ∃ us, β[i]? = some (.row v g) ∧ W.ownsRow 0 e z v xs.length us ∧ (∀ x, x ∈ xs → x.cells.length = z) ∧ ∀ (j : Nat) (u : Value) (y : AV), us[j]? = some u → (xs.flatMap AV.cells)[j]? = some y → VRep β W u y := by
  cases h with
  | own _ _ _ hi2 h =>
    have hg : β[i]? = some β[i] := List.getElem?_eq_getElem hi2
    have ho := hH.ob i _ _ hi hg
    cases hb : β[i] with
    | box b => rw [hb] at ho; exact ho.elim
    | dead => rw [hb] at ho; exact ho.elim
    | guard b => rw [hb] at ho; exact ho.elim
    | bld b v => rw [hb] at ho; exact ho.elim
    | row v' g' =>
      rw [hb] at ho hg
      obtain ⟨e1, us, h1, h2, h3⟩ := ho
      subst e1
      obtain ⟨_, h5⟩ := h v' _ hg
      obtain rfl := h5 rfl
      exact ⟨us, hg, h1, h2, h3⟩
/-- append to a slice of its own -/
theorem ARun.append {x y : Operand} {t e : TypeId} {i g z by_ : Nat} {zv : Value} {xs ys zs : List AV} {d : Option Tmp} {Y : AV} (ho : o.op = .call { callee := .builtin .append, args := #[x, y], argTypes := #[t, t] }) (hd : o.dst = d) (hn : dstLt n d = true) (hg : gdS ops σ o.guard = some true)
    (hu : P.underlying t = some (.slice e)) (hT : Ti P e zv z by_) (hzs : zv.cells.size = z) (hz0 : 0 < z)
    (hx : Ev true σ x (.own i g)) (hy : Ev true σ y (.sl ys)) (hH : H[i]? = some (.row g e z xs)) (hys : (ys.all fun y => Nat.beq y.cells.length z && y.cells.all AV.one) = true)
    (hm : xs.length + ys.length ≤ maxLen) (hby : (xs.length + ys.length) * by_ ≤ 140737488355328) (hzz : xs ++ ys = zs) (hY : optA o.guard true (.own i (g + 1)) = Y)
    (hr : ARun P ops n QQ l (ks ++ [.write]) (putS σ d Y) (H.set i (.row (g + 1) e z zs))) : ARun P ops n QQ (o :: l) ks σ H := by
  have hyz : ∀ y, y ∈ ys → y.cells.length = z := fun y hy => by
    have := List.all_eq_true.1 hys y hy
    rw [Bool.and_eq_true] at this; exact Nat.eq_of_beq_eq_true this.1
  have hyo : ∀ y, y ∈ ys → ∀ c, c ∈ y.cells → c.one = true := fun y hy c hc => by
    have := List.all_eq_true.1 hys y hy
    rw [Bool.and_eq_true] at this; exact List.all_eq_true.1 this.2 c hc
  refine ARun.write hd hn hg hY (fun a W β hHr hl => ?_) hr
  subst hzz
  obtain ⟨us, h1, h2, h3, h4⟩ := (hx.rep rfl hl (by simp [ho, Op.operands, Call.operands])).own_at hHr hH
  have h0 := hy.rep rfl hl (by simp [ho, Op.operands, Call.operands])
  generalize hvx : a.eval x = v at h1 h2
  generalize hvy : a.eval y = w at h0
  obtain ⟨ti, hti, htz, hts, htb⟩ : ∃ ti, P.info? e = some ti ∧ ti.zero = some zv ∧ ti.size = z ∧ ti.bytes = by_ := by
    unfold Ti at hT
    cases hi : P.info? e with
    | none => rw [hi] at hT; cases hT
    | some i => rw [hi] at hT; simp at hT; exact ⟨i, rfl, hT⟩
  have hlt := (List.getElem?_eq_some_iff.1 h1).1
  have hallz : ∀ x, x ∈ xs ++ ys → x.cells.length = z := fun x hx => by
    rcases List.mem_append.1 hx with hx | hx
    · exact h3 x hx
    · exact hyz x hx
  have hexec : ∀ v' w', (Builtin.append_ #[t, t] o.type #[v, w]).run P W = .ok v' w' → (execOp a.eval o).run P W = .ok (.value v') w' := by
    intro v' w' hrun
    simp [execOp, ho, resolve, hvx, hvy, invoke, builtin, hrun]
  have fin : ∀ (v' : Value) (w' : World) (news : List Value), w'.ownsRow 0 e z v' (xs.length + ys.length) (us ++ news) → W.grownBy w' v.ownBlock → (v'.ownBlock = v.ownBlock ∨ v'.ownBlock = some W.heap.size) →
      (∀ (j : Nat) (u : Value) (y : AV), news[j]? = some u → (ys.flatMap AV.cells)[j]? = some y → VRep β W u y) → news.length = ys.length * z → (execOp a.eval o).run P W = .ok (.value v') w' →
      ∃ v W' β', (execOp a.eval o).run P W = .ok (.value v) W' ∧ Ext β W β' W' ∧ HRel β' (H.set i (.row (g + 1) e z (xs ++ ys))) W' ∧ VRep β' W' v (.own i (g + 1)) := by
    intro v' w' news q1 q2 q3 q4 q5 q6
    have hus : us.length = xs.length * z := h2.1
    have hgrow := hHr.grow h1 q2 q3 (o := .row (g + 1) e z (xs ++ ys)) (fun hx => ⟨rfl, us ++ news, by rw [List.length_append]; exact q1, hallz, fun q u y p1 p2 => by
      refine VRep.ext hx ?_
      rw [List.flatMap_append] at p2
      have hfl := flat_len' xs h3
      by_cases hq : q < xs.length * z
      · rw [List.getElem?_append_left (by rw [hus]; exact hq)] at p1
        rw [List.getElem?_append_left (by rw [hfl]; exact hq)] at p2
        exact h4 q u y p1 p2
      · rw [List.getElem?_append_right (by rw [hus]; omega), hus] at p1
        rw [List.getElem?_append_right (by rw [hfl]; omega), hfl] at p2
        exact q4 _ u y p1 p2⟩)
    refine ⟨v', w', _, q6, hgrow.1, hgrow.2, .own _ _ _ (by simpa using hlt) (fun u g' hb => ?_) (ownsRow_one q1)⟩
    rw [List.getElem?_set_self hlt] at hb
    cases hb
    exact ⟨Nat.le_refl _, fun _ => rfl⟩
  cases h0 with
  | slnil =>
    refine fin v W [] (by simpa using h2) ⟨rfl, rfl, rfl, Nat.le_refl _, fun _ _ _ => rfl⟩ (.inl rfl) (fun j u y hj => by simp at hj) (by simp) (hexec v W (append_none_run hu hT.sz h2))
  | slemp p cap hmm =>
    obtain ⟨v', w', r1, r2, r3, _, r5⟩ := run_append_own_at (P := P) (w := W) 0 t o.type e ti zv z by_ hu hti htz hts htb hzs hz0 v xs.length us h2 p 0 cap [] (by simp) (fun j u hj => by simp at hj) (fun u hu => by cases hu) (by simpa using hm) (by simpa using hby) (Nat.zero_le _)
    exact fin v' w' [] (by simpa using r2) r3 r5 (fun j u y hj => by simp at hj) (by simp) (hexec v' w' r1)
  | sl b off cap z' _ hc hmm hb hS hz' hdd h =>
    have hcells : ∃ news : List Value, news.length = ys.length * z ∧ (∀ (j : Nat) (u : Value), news[j]? = some u → W.cell? ⟨b, off + j, none⟩ = some u) ∧ ∀ (j : Nat) (u : Value) (y : AV), news[j]? = some u → (ys.flatMap AV.cells)[j]? = some y → VRep β W u y := by
      cases ys with
      | nil => exact ⟨[], by simp, fun j u h => by simp at h, fun j u y h => by simp at h⟩
      | cons y0 ys0 =>
        have ez : z' = z := by rw [← hz' y0 List.mem_cons_self, hyz y0 List.mem_cons_self]
        subst ez
        exact sl_cells (y0 :: ys0) off hyz hdd h
    obtain ⟨news, k1, k2, k3⟩ := hcells
    have hone : ∀ u, u ∈ news → u.oneCell' = true := by
      intro u hu
      obtain ⟨q, hq, rfl⟩ := List.mem_iff_getElem.1 hu
      have hq2 : q < (ys.flatMap AV.cells).length := by rw [flat_len' ys hyz, ← k1]; exact hq
      refine (k3 q _ _ (List.getElem?_eq_getElem hq) (List.getElem?_eq_getElem hq2)).one ?_
      obtain ⟨y, hy1, hy2⟩ := List.mem_flatMap.1 (List.getElem_mem hq2)
      exact hyo y hy1 _ hy2
    obtain ⟨v', w', r1, r2, r3, _, r5⟩ := run_append_own_at (P := P) (w := W) 0 t o.type e ti zv z by_ hu hti htz hts htb hzs hz0 v xs.length us h2 ⟨b, off, none⟩ ys.length cap news k1 (fun j u hj => by rw [aadd]; exact k2 j u hj) hone hm hby (Nat.zero_le _)
    exact fin v' w' news r2 r3 r5 k3 k1 (hexec v' w' r1)
theorem ARun.appendL {x y : Operand} {t e : TypeId} {j g z by_ : Nat} {zv : Value} {xs ys zs : List AV} {L' : List AO} {d : Option Tmp} {Y : AV} (hmG : GOK m G) (ho : o.op = .call { callee := .builtin .append, args := #[x, y], argTypes := #[t, t] }) (hd : o.dst = d) (hn : dstLt n d = true) (hg : gdS ops σ o.guard = some true)
    (hu : P.underlying t = some (.slice e)) (hT : Ti P e zv z by_) (hzs : zv.cells.size = z) (hz0 : 0 < z)
    (hx : Ev true σ x (.own (m + j) g)) (hy : Ev true σ y (.sl ys)) (hH : L[j]? = some (.row g e z xs)) (hys : (ys.all fun y => Nat.beq y.cells.length z && y.cells.all AV.one) = true)
    (hm : xs.length + ys.length ≤ maxLen) (hby : (xs.length + ys.length) * by_ ≤ 140737488355328) (hzz : xs ++ ys = zs) (hY : optA o.guard true (.own (m + j) (g + 1)) = Y) (hL : L.set j (.row (g + 1) e z zs) = L')
    (hr : ARun P ops n QQ l (ks ++ [.write]) (putS σ d Y) (G ++ L')) : ARun P ops n QQ (o :: l) ks σ (G ++ L) :=
  ARun.append ho hd hn hg hu hT hzs hz0 hx hy (by rw [hmG.at]; exact hH) hys hm hby hzz hY (by rw [hmG.set, hL]; exact hr)
end
theorem take_mid {α : Type} (l vs : List α) (off c N : Nat) (hv : vs.length = c) (h : off + c ≤ N) (hN : N ≤ l.length) : (l.take off ++ vs ++ l.drop (off + c)).take N = (l.take N).take off ++ vs ++ (l.take N).drop (off + c) := by
  rw [List.take_append, List.take_of_length_le (by simp; omega), List.drop_take, List.take_take]
  have e1 : min off N = off := by omega
  have e2 : (l.take off ++ vs).length = off + c := by simp; omega
  rw [e1, e2]
/-- a row is written in its own block -/
theorem HRel.setRow {β : List Hd} {H : List AO} {w w' : World} (h : HRel β H w) {i g : Nat} {v : Value} {b : Nat} (hi : β[i]? = some (.row v g)) (hvb : v.ownBlock = some b) {o : AO} (hs : w'.heap.size = w.heap.size) (hos : w'.os = w.os) (htp : w'.tape = w.tape) (hout : w'.output = w.output)
    (hbl : ∀ k, k ≠ b → w'.heap[k]? = w.heap[k]?) (ho : Ext β w β w' → ORep β w' (.row v g) o) : Ext β w β w' ∧ HRel β (H.set i o) w' := by
  have hm : b ∈ (Hd.row v g).blks := opt_mem.2 hvb
  have hst : ∀ k, Still β k → k ≠ b := fun k hk e => hk _ (List.mem_of_getElem? hi) (by rw [e]; exact hm)
  have hext : Ext β w β w' := ⟨hos, htp, hout, by omega, fun k hk hs => hbl k (hst k hs), fun k hk hs => hs, fun i y hy => ⟨y, hy, y.to_refl⟩, fun bs b' hb' hm' _ => hbl b' fun e => by
    obtain ⟨j, hj, ej⟩ := List.mem_iff_getElem.1 hb'
    have hj2 : β[j]? = some (.guard bs) := by rw [List.getElem?_eq_getElem hj, ej]
    have hne : i ≠ j := fun e2 => by subst e2; rw [hi] at hj2; cases hj2
    exact h.ap i j _ _ b hne hi hj2 hm (by rw [← e]; exact hm')⟩
  refine ⟨hext, ⟨h.gl.ext hext, by simp [h.len], fun j o' y h1 h2 => ?_, h.ap⟩⟩
  by_cases e : i = j
  · subst e
    have hlt : i < H.length := by have := (List.getElem?_eq_some_iff.1 hi).1; rw [h.len] at this; exact this
    rw [List.getElem?_set_self hlt] at h1
    cases h1
    rw [hi] at h2; cases h2
    exact ho hext
  · rw [List.getElem?_set_ne e] at h1
    refine (h.ob j o' y h1 h2).ext hext fun b' hb' _ => hbl b' ?_
    intro e2; subst e2
    exact h.ap i j _ y b' e hi h2 hm hb'
section
variable {P : Program} {ops : Array Oper} {n m : Nat} {QQ : List Kd → Sl → List AO → Prop} {l : List Oper} {ks : List Kd} {σ : Sl} {G L H : List AO} {o : Oper} {gd : Bool}
/-- &x[i] of a slice of its own -/
theorem ARun.indexOwn {x y : Operand} {t e : TypeId} {z j i g : Nat} {k : IntKind} {q : Int} {xs : List AV} {Y : AV} {d : Option Tmp} (ho : o.op = .indexAddr t x y) (hd : o.dst = d) (hn : dstLt n d = true) (hG : gdS ops σ o.guard = some gd)
    (hu : P.underlying t = some (.slice e)) (hz : Sz P e z) {e' : TypeId} (hH : H[i]? = some (.row g e' z xs)) (hx : Ev gd σ x (.own i g)) (hy : Ev gd σ y (.int k q)) (hi : gd = true → q = (j : Int)) (hj : gd = true → j < xs.length) (hY : optA o.guard gd (.elt i g (j * z)) = Y)
    (hr : ARun P ops n QQ l (ks ++ [.read]) (putS σ d Y) H) : ARun P ops n QQ (o :: l) ks σ H := by
  refine ARun.read hd hn hG hY (fun hg a W β hHr hl => ?_) hr
  obtain ⟨us, h1, h2, h3, h4⟩ := (hx.rep hg hl (by simp [ho, Op.operands])).own_at hHr hH
  have h5 := (hy.rep hg hl (by simp [ho, Op.operands])).int_inv
  have hq := hi hg
  have hlt := hj hg
  subst hq
  rcases h2.2 with ⟨h6, h0⟩ | ⟨gb, cap, cur, h6, _, hgg, hnc, hcm, hcs, htake⟩
  · omega
  · refine ⟨.pointer (some ⟨gb, j * z, none⟩), ?_, .elt _ _ _ _ (List.getElem?_eq_some_iff.1 h1).1 fun u g' hb => ?_⟩
    · simp [execOp, ho, h6, h5, Instr.indexAt, asIntOf, run_underlying hu, hz.run, hlt, aadd]
    · rw [h1] at hb; cases hb
      exact ⟨Nat.le_refl _, fun _ => ⟨gb, by rw [h6]; rfl, rfl⟩⟩
theorem ARun.fieldElt {x : Operand} {s : TypeId} {f fo fs i g off : Nat} {fields : Array Field} {fld : Field} {e : TypeId} {z : Nat} {xs : List AV} {Y : AV} {d : Option Tmp} (ho : o.op = .fieldAddr s x f) (hd : o.dst = d) (hn : dstLt n d = true) (hG : gdS ops σ o.guard = some gd)
    (hu : P.underlying s = some (.struct fields)) (hf : fields[f]? = some fld) (hfo : off + fld.offset = fo) (hz : Sz P fld.type fs) (hfs : fs ≠ 0)
    (hx : Ev gd σ x (.elt i g off)) (hH : H[i]? = some (.row g e z xs)) (hY : optA o.guard gd (.elt i g fo) = Y)
    (hr : ARun P ops n QQ l (ks ++ [.read]) (putS σ d Y) H) : ARun P ops n QQ (o :: l) ks σ H := by
  refine ARun.read hd hn hG hY (fun hg a W β hHr hl => ?_) hr
  have h0 := hx.rep hg hl (by simp [ho, Op.operands])
  generalize hv : a.eval x = v at h0
  subst hfo
  cases h0 with
  | elt _ _ _ _ hi h =>
    have hob := hHr.ob i _ _ hH (List.getElem?_eq_getElem hi)
    have hg0 : β[i]? = some β[i] := List.getElem?_eq_getElem hi
    cases hb : β[i] <;> rw [hb] at hob hg0 <;> first | exact hob.elim | skip
    rename_i v2 g2
    obtain ⟨e1, _⟩ := hob
    subst e1
    obtain ⟨_, k2⟩ := h v2 _ hg0
    obtain ⟨gb, k3, rfl⟩ := k2 rfl
    refine ⟨.pointer (some ⟨gb, off + fld.offset, none⟩), ?_, .elt _ _ _ _ hi fun u g' hb2 => ?_⟩
    · simp [execOp, ho, hv, Instr.fieldAt, run_underlying hu, hf, Instr.sureAddr, fieldPlace, hz.run, hfs, aadd]
    · rw [hg0] at hb2; cases hb2
      exact ⟨Nat.le_refl _, fun _ => ⟨gb, k3, rfl⟩⟩
/-- a store into a slice of its own -/
theorem ARun.storeElt {x y : Operand} {t e : TypeId} {i g off c z : Nat} {xs zs C : List AV} {X : AV} (ho : o.op = .store t x y) (hd : o.dst = none) (hg : gdS ops σ o.guard = some true) (hz : Sz P t c)
    (hx : Ev true σ x (.elt i g off)) (hy : Ev true σ y X) (hH : H[i]? = some (.row g e z xs)) (hX : shaped X = true) (hC : X.cells = C) (hCz : C.length = c) (hone : C.all AV.one = true)
    (hoff : off + c ≤ xs.length * z) (hzs : zs.flatMap AV.cells = (xs.flatMap AV.cells).take off ++ C ++ (xs.flatMap AV.cells).drop (off + c)) (hzl : zs.length = xs.length) (hzz : ∀ x, x ∈ zs → x.cells.length = z)
    (hr : ARun P ops n QQ l (ks ++ [.write]) σ (H.set i (.row g e z zs))) : ARun P ops n QQ (o :: l) ks σ H := by
  refine ⟨.write, .raw undef, H.set i (.row g e z zs), by rw [hd]; rfl, OpStep.skip (gd := true) hg rfl (fun a W β hHr hl => ?_), by rw [hd]; exact hr⟩
  have h0x := hx.rep rfl hl (by simp [ho, Op.operands])
  have h0 := hy.rep rfl hl (by simp [ho, Op.operands])
  generalize hvx : a.eval x = vx at h0x
  generalize hv : a.eval y = v at h0
  cases h0x with
  | elt _ _ _ _ hi h =>
    have hob := hHr.ob i _ _ hH (List.getElem?_eq_getElem hi)
    have hg0 : β[i]? = some β[i] := List.getElem?_eq_getElem hi
    cases hb : β[i] <;> rw [hb] at hob hg0 <;> first | exact hob.elim | skip
    rename_i v2 g2
    obtain ⟨e1, us, h2, h3, h4⟩ := hob
    subst e1
    obtain ⟨_, k2⟩ := h v2 _ hg0
    obtain ⟨gb, k3, rfl⟩ := k2 rfl
    rcases h2.2 with ⟨h6, h0'⟩ | ⟨gb', cap, cur, h6, _, hgg, hnc, hcm, hcs, htake⟩
    · rw [h6] at k3; cases k3
    · obtain rfl : gb = gb' := by rw [h6] at k3; simp only [Value.ownBlock] at k3; injection k3 with k3; exact k3.symm
      obtain ⟨c1, c2⟩ := h0.cells (shaped_spec hX)
      rw [hC] at c1 c2
      have hus : us.length = xs.length * z := h2.1
      have hfl := flat_len' xs h3
      have hcone : ∀ u, u ∈ v.cells.toList → u.oneCell' = true := by
        intro u hu
        obtain ⟨q, hq, rfl⟩ := List.mem_iff_getElem.1 hu
        have hq' : q < v.cells.size := by simpa using hq
        have hqc : q < C.length := by omega
        have := c2 q _ _ (Array.getElem?_eq_getElem hq') (List.getElem?_eq_getElem hqc)
        have h7 := this.one (List.all_eq_true.1 hone _ (List.getElem_mem hqc))
        simpa using h7
      have hlen : v.cells.toList.length = c := by rw [Array.length_toList, c1, hCz]
      have hnz : xs.length * z ≤ cap * z := Nat.mul_le_mul_right _ hnc
      have hst := run_storeCells_at P gb off e v.cells.toList 0 cur W hgg (by rw [hlen, hcs]; omega) hcone
      rw [Nat.add_zero, hlen] at hst
      have hset := hHr.setRow hg0 (b := gb) (by rw [h6]; rfl) (o := .row g2 e z zs) (w' := W.setRow gb (cur.toList.take off ++ v.cells.toList ++ cur.toList.drop (off + c)).toArray) (by simp) (by simp) (by simp) (by simp) (fun k hk => setRow_other W gb k _ hk) (fun hx => by
        refine ⟨rfl, us.take off ++ v.cells.toList ++ us.drop (off + c), ⟨?_, .inr ⟨gb, cap, _, by rw [hzl]; exact h6, Nat.zero_le _, setRow_heap W gb cur _ e (0, 0) hgg, by omega, hcm, ?_, ?_⟩⟩, hzz, fun q u y' hq hy' => ?_⟩
        · simp [hus, hzl]; rw [← Array.length_toList, hlen]; omega
        · simp [hcs]; rw [← Array.length_toList, hlen]; omega
        · rw [hzl, ← htake]
          exact take_mid _ _ _ _ _ hlen hoff (Nat.le_trans hnz (by rw [← hcs]; simp))
        · rw [hzs] at hy'
          refine VRep.ext hx ?_
          by_cases q1 : q < off
          · rw [List.append_assoc, List.getElem?_append_left (by rw [List.length_take, hus]; omega), List.getElem?_take_of_lt q1] at hq
            rw [List.append_assoc, List.getElem?_append_left (by rw [List.length_take, hfl]; omega), List.getElem?_take_of_lt q1] at hy'
            exact h4 q u y' hq hy'
          · by_cases q2 : q < off + c
            · rw [List.append_assoc, List.getElem?_append_right (by rw [List.length_take, hus]; omega), List.length_take, hus, List.getElem?_append_left (by rw [hlen]; omega)] at hq
              rw [List.append_assoc, List.getElem?_append_right (by rw [List.length_take, hfl]; omega), List.length_take, hfl, List.getElem?_append_left (by rw [hCz]; omega)] at hy'
              exact c2 _ u y' (by simpa using hq) hy'
            · rw [List.getElem?_append_right (by rw [List.length_append, List.length_take, hlen, hus]; omega), List.getElem?_drop, List.length_append, List.length_take, hlen, hus] at hq
              rw [List.getElem?_append_right (by rw [List.length_append, List.length_take, hCz, hfl]; omega), List.getElem?_drop, List.length_append, List.length_take, hCz, hfl] at hy'
              exact h4 _ u y' hq hy')
      refine ⟨_, β, ?_, hset.1, hset.2⟩
      have hsz : v.cells.size = c := by rw [← hlen]; simp
      simp [execOp, ho, hv, hvx, Instr.storeAt, Instr.sureAddr, storeVar, hz.run, hsz, hst]
theorem ARun.storeEltL {x y : Operand} {t e : TypeId} {j g off c z : Nat} {xs zs C : List AV} {X : AV} {L' : List AO} (hm : GOK m G) (ho : o.op = .store t x y) (hd : o.dst = none) (hg : gdS ops σ o.guard = some true) (hz : Sz P t c)
    (hx : Ev true σ x (.elt (m + j) g off)) (hy : Ev true σ y X) (hH : L[j]? = some (.row g e z xs)) (hX : shaped X = true) (hC : X.cells = C) (hCz : C.length = c) (hone : C.all AV.one = true)
    (hoff : off + c ≤ xs.length * z) (hzs : zs.flatMap AV.cells = (xs.flatMap AV.cells).take off ++ C ++ (xs.flatMap AV.cells).drop (off + c)) (hzl : zs.length = xs.length) (hzz : ∀ x, x ∈ zs → x.cells.length = z) (hL : L.set j (.row g e z zs) = L')
    (hr : ARun P ops n QQ l (ks ++ [.write]) σ (G ++ L')) : ARun P ops n QQ (o :: l) ks σ (G ++ L) :=
  ARun.storeElt ho hd hg hz hx hy (by rw [hm.at]; exact hH) hX hC hCz hone hoff hzs hzl hzz (by rw [hm.set, hL]; exact hr)
/-- a whole element is stored -/
theorem flat_set {z : Nat} : ∀ (xs : List AV) (k : Nat) (X : AV), (∀ x, x ∈ xs → x.cells.length = z) → X.cells.length = z → k < xs.length → (xs.set k X).flatMap AV.cells = (xs.flatMap AV.cells).take (k * z) ++ X.cells ++ (xs.flatMap AV.cells).drop (k * z + z) := by
  intro xs
  induction xs with
  | nil => intro k X _ _ hk; simp at hk
  | cons x xs ih =>
    intro k X hz hX hk
    have hx := hz x List.mem_cons_self
    cases k with
    | zero => simp [List.flatMap_cons, hx]
    | succ k =>
      rw [List.set_cons_succ, List.flatMap_cons, ih k X (fun y hy => hz y (List.mem_cons_of_mem _ hy)) hX (by simpa using hk), List.flatMap_cons]
      rw [show (k + 1) * z = x.cells.length + k * z by rw [hx, Nat.add_mul]; omega, List.take_length_add_append, show x.cells.length + k * z + z = x.cells.length + (k * z + z) by omega, List.drop_length_add_append]
      simp
end
/-- a slice of its own, from now on only read -/
theorem AWP.freeze {P : Program} {n m : Nat} {c : Code} {Q : QA} {σ σ' : Sl} {G L : List AO} {j g : Nat} {e : TypeId} {z : Nat} {xs : List AV} {L' : List AO} (hm : GOK m G) (hj : L[j]? = some (.row g e z xs)) (hz0 : 0 < z) (hml : xs.length ≤ maxLen) (hL : L.set j .dead = L')
    (hs : ∀ t X, look σ' t = some X → look σ t = some X ∨ (look σ t = some (.own (m + j) g) ∧ X = .sl xs)) (h : AWP P n m c Q σ' G L') : AWP P n m c Q σ G L := by
  intro D a W β hmG hn hd hHr hs0
  have hiH : (G ++ L)[m + j]? = some (.row g e z xs) := by rw [hm.at]; exact hj
  obtain ⟨hlt, v, hβ⟩ : m + j < β.length ∧ ∃ v, β[m + j]? = some (.row v g) := by
    have hlt : m + j < β.length := by rw [hHr.len]; exact (List.getElem?_eq_some_iff.1 hiH).1
    refine ⟨hlt, ?_⟩
    have ho := hHr.ob _ _ _ hiH (List.getElem?_eq_getElem hlt)
    cases hb : β[m + j] with
    | box b => rw [hb] at ho; exact ho.elim
    | dead => rw [hb] at ho; exact ho.elim
    | guard b => rw [hb] at ho; exact ho.elim
    | bld b v => rw [hb] at ho; exact ho.elim
    | row v' g' => rw [hb] at ho; obtain ⟨rfl, _⟩ := ho; exact ⟨v', by rw [List.getElem?_eq_getElem hlt, hb]⟩
  have ho := hHr.ob _ _ _ hiH hβ
  obtain ⟨_, us, h2, h3, h4⟩ := ho
  have hext : Ext β W (β.set (m + j) .dead) W := by
    refine ⟨rfl, rfl, rfl, Nat.le_refl _, fun _ _ _ => rfl, fun k hk hst x hx => ?_, fun i x hx => ?_, ?_⟩
    · rcases List.mem_or_eq_of_mem_set hx with hx | rfl
      · exact hst x hx
      · intro e; cases e
    · by_cases e : m + j = i
      · subst e; rw [hβ] at hx; cases hx; exact ⟨.dead, List.getElem?_set_self hlt, trivial⟩
      · exact ⟨x, by rw [List.getElem?_set_ne e]; exact hx, x.to_refl⟩
    · intro _ _ _ _ _; rfl
  have hH2 : HRel (β.set (m + j) .dead) (G ++ L') W := by
    rw [← hL, ← hm.set]
    refine ⟨hHr.gl.ext hext, by simp [hHr.len], fun i o x h1 h5 => ?_, fun i k hi hk b hne h1 h5 h6 => ?_⟩
    · by_cases e : m + j = i
      · subst e
        rw [List.getElem?_set_self (by rw [← hHr.len]; exact hlt)] at h1
        rw [List.getElem?_set_self hlt] at h5
        cases h1; cases h5; trivial
      · rw [List.getElem?_set_ne e] at h1 h5
        exact (hHr.ob i o x h1 h5).ext hext fun _ _ _ => rfl
    · have g1 : β[i]? = some hi := by
        by_cases e : m + j = i
        · subst e; rw [List.getElem?_set_self hlt] at h1; cases h1; cases h6
        · rw [List.getElem?_set_ne e] at h1; exact h1
      intro e6
      have g2 : β[k]? = some hk := by
        by_cases e : m + j = k
        · subst e; rw [List.getElem?_set_self hlt] at h5; cases h5; cases e6
        · rw [List.getElem?_set_ne e] at h5; exact h5
      exact hHr.ap i k hi hk b hne g1 g2 h6 e6
  have hsl : VRep (β.set (m + j) .dead) W v (.sl xs) := by
    rcases h2.2 with ⟨rfl, h0⟩ | ⟨gb, cap, cur, rfl, _, hgg, hnc, hcm, hcs, htake⟩
    · have : xs = [] := List.eq_nil_of_length_eq_zero h0
      subst this; exact .slnil
    · have hgl := (Array.getElem?_eq_some_iff.1 hgg).1
      have hcell : ∀ q u, us[q]? = some u → W.cell? ⟨gb, q, none⟩ = some u := by
        intro q u hq
        have hc := cell_of_row W gb q cur e (0, 0) hgg
        rw [hc, ← htake] at *
        rw [List.getElem?_take] at hq
        split at hq
        · simpa using hq
        · cases hq
      have hus : us.length = xs.length * z := h2.1
      have hfl := flat_len' xs h3
      refine .sl gb 0 cap z xs hnc hcm hgl (fun x hx e5 => ?_) h3 (fun i q x y hi hq => ?_) (fun i q x y u hi hq hu => ?_)
      · obtain ⟨k, hk, rfl⟩ := List.mem_iff_getElem.1 hx
        have hk2 : (β.set (m + j) .dead)[k]? = some ((β.set (m + j) .dead)[k]) := List.getElem?_eq_getElem hk
        by_cases e : m + j = k
        · subst e; rw [List.getElem_set_self] at e5; cases e5
        · rw [List.getElem?_set_ne e] at hk2
          exact hHr.ap _ _ _ _ gb e hβ hk2 (opt_mem.2 rfl) e5
      · have h7 := flat_at xs h3 i q x y hi hq
        have hlt7 : i * z + q < us.length := by rw [hus, ← hfl]; exact (List.getElem?_eq_some_iff.1 h7).1
        exact ⟨_, by rw [Nat.zero_add]; exact hcell _ _ (List.getElem?_eq_getElem hlt7)⟩
      · have h7 := flat_at xs h3 i q x y hi hq
        have hlt7 : i * z + q < us.length := by rw [hus, ← hfl]; exact (List.getElem?_eq_some_iff.1 h7).1
        rw [Nat.zero_add, hcell _ _ (List.getElem?_eq_getElem hlt7)] at hu
        cases hu
        exact (h4 _ _ y (List.getElem?_eq_getElem hlt7) h7).ext hext
  refine Code.wp_mono (fun e a' W' hp => hp.ext hext) (h D a W _ hmG hn hd hH2 fun t X ht => ?_)
  rcases hs t X ht with h8 | ⟨h8, rfl⟩
  · obtain ⟨u, k1, k2⟩ := hs0 t X h8
    exact ⟨u, k1, k2.ext hext⟩
  · obtain ⟨u, k1, k2⟩ := hs0 t _ h8
    refine ⟨u, k1, ?_⟩
    cases k2 with
    | own _ _ _ _ h9 =>
      obtain ⟨_, h10⟩ := h9 v g hβ
      rw [h10 rfl]; exact hsl
theorem AWP.frzOwn {P : Program} {n m : Nat} {c : Code} {Q : QA} {σ : Sl} {G L : List AO} {j g : Nat} {e : TypeId} {z : Nat} {xs : List AV} {L' : List AO} (t : Nat) (hm : GOK m G) (ht : look σ t = some (.own (m + j) g)) (hj : L[j]? = some (.row g e z xs)) (hz0 : 0 < z) (hml : xs.length ≤ maxLen) (hL : L.set j .dead = L')
    (h : AWP P n m c Q ((t, .sl xs) :: σ) G L') : AWP P n m c Q σ G L := by
  refine AWP.freeze hm hj hz0 hml hL (fun t' X hX => ?_) h
  change (bif Nat.beq t t' then some (AV.sl xs) else look σ t') = some X at hX
  cases hb : Nat.beq t t' with
  | true => rw [hb] at hX; obtain rfl := Nat.eq_of_beq_eq_true hb; cases hX; exact .inr ⟨ht, rfl⟩
  | false => rw [hb] at hX; exact .inl hX
/-- a variable, from now on only read -/
theorem AWP.frzBox {P : Program} {n m : Nat} {c : Code} {Q : QA} {σ : Sl} {G L : List AO} {j : Nat} {cs : List AV} {L' : List AO} (t : Nat) (hm : GOK m G) (ht : look σ t = some (.box (m + j) 0)) (hj : L[j]? = some (.box cs)) (hL : L.set j .dead = L')
    (h : AWP P n m c Q ((t, .pe cs) :: σ) G L') : AWP P n m c Q σ G L := by
  intro D a W β hmG hn hd hHr hs0
  have hiH : (G ++ L)[m + j]? = some (.box cs) := by rw [hm.at]; exact hj
  obtain ⟨u, ku, hu⟩ := hs0 t _ ht
  obtain ⟨b, arr, T, hβ, hub, hhp, hsz, hcs⟩ := hu.box_at hHr hiH
  have hlt : m + j < β.length := hβ.lt
  obtain ⟨x0, hx0, hxb, hxd⟩ : ∃ x0, β[m + j]? = some x0 ∧ x0.cb = some b ∧ x0.to .dead := by
    rcases hβ with h | ⟨v, h, _⟩
    · exact ⟨_, h, rfl, trivial⟩
    · exact ⟨_, h, rfl, trivial⟩
  have hβ := hx0
  have hext : Ext β W (β.set (m + j) .dead) W := by
    refine ⟨rfl, rfl, rfl, Nat.le_refl _, fun _ _ _ => rfl, fun k hk hst x hx => ?_, fun i x hx => ?_, ?_⟩
    · rcases List.mem_or_eq_of_mem_set hx with hx | rfl
      · exact hst x hx
      · intro e; cases e
    · by_cases e : m + j = i
      · subst e; rw [hβ] at hx; cases hx; exact ⟨.dead, List.getElem?_set_self hlt, hxd⟩
      · exact ⟨x, by rw [List.getElem?_set_ne e]; exact hx, x.to_refl⟩
    · intro _ _ _ _ _; rfl
  have hH2 : HRel (β.set (m + j) .dead) (G ++ L') W := by
    rw [← hL, ← hm.set]
    refine ⟨hHr.gl.ext hext, by simp [hHr.len], fun i o x h1 h5 => ?_, fun i k hi hk b hne h1 h5 h6 => ?_⟩
    · by_cases e : m + j = i
      · subst e
        rw [List.getElem?_set_self (by rw [← hHr.len]; exact hlt)] at h1
        rw [List.getElem?_set_self hlt] at h5
        cases h1; cases h5; trivial
      · rw [List.getElem?_set_ne e] at h1 h5
        exact (hHr.ob i o x h1 h5).ext hext fun _ _ _ => rfl
    · have g1 : β[i]? = some hi := by
        by_cases e : m + j = i
        · subst e; rw [List.getElem?_set_self hlt] at h1; cases h1; cases h6
        · rw [List.getElem?_set_ne e] at h1; exact h1
      intro e6
      have g2 : β[k]? = some hk := by
        by_cases e : m + j = k
        · subst e; rw [List.getElem?_set_self hlt] at h5; cases h5; cases e6
        · rw [List.getElem?_set_ne e] at h5; exact h5
      exact hHr.ap i k hi hk b hne g1 g2 h6 e6
  have hcell : ∀ q, W.cell? ⟨b, q, none⟩ = arr[q]? := by intro q; simp [World.cell?, hhp]
  have hpe : VRep (β.set (m + j) .dead) W u (.pe cs) := by
    rw [hub]
    refine .pe b 0 cs (Array.getElem?_eq_some_iff.1 hhp).1 (fun x hx e5 => ?_) (fun q y hq => ?_) (fun q y u hq hu => ?_)
    · obtain ⟨k, hk, rfl⟩ := List.mem_iff_getElem.1 hx
      have hk2 : (β.set (m + j) .dead)[k]? = some ((β.set (m + j) .dead)[k]) := List.getElem?_eq_getElem hk
      by_cases e : m + j = k
      · subst e; rw [List.getElem_set_self] at e5; cases e5
      · rw [List.getElem?_set_ne e] at hk2
        exact hHr.ap _ _ _ _ b e hβ hk2 (Hd.cb_mem hxb) e5
    · have hl : q < arr.size := by rw [hsz]; exact (List.getElem?_eq_some_iff.1 hq).1
      exact ⟨_, by rw [Nat.zero_add, hcell]; exact Array.getElem?_eq_getElem hl⟩
    · rw [Nat.zero_add, hcell] at hu
      exact (hcs q u y hu hq).ext hext
  refine Code.wp_mono (fun e a' W' hp => hp.ext hext) (h D a W _ hmG hn hd hH2 fun t' X hX => ?_)
  change (bif Nat.beq t t' then some (AV.pe cs) else look σ t') = some X at hX
  cases hb : Nat.beq t t' with
  | true => rw [hb] at hX; obtain rfl := Nat.eq_of_beq_eq_true hb; cases hX; exact ⟨u, ku, hpe⟩
  | false =>
    rw [hb] at hX
    obtain ⟨u', k1, k2⟩ := hs0 t' X hX
    exact ⟨u', k1, k2.ext hext⟩
/-! ### a function that hands out a slice of the caller's own -/
def FnNew (P : Program) (f : FuncId) (args : List AV) (e : TypeId) (z : Nat) (zs : List AV) : Prop := ∀ H, FnH P f args H (.own H.length 0) (H ++ [.row 0 e z zs])
section
variable {P : Program} {ops : Array Oper} {n m : Nat} {QQ : List Kd → Sl → List AO → Prop} {l : List Oper} {ks : List Kd} {σ : Sl} {G L H : List AO} {o : Oper} {gd : Bool}
theorem ARun.callNew {f : Operand} {args : Array Operand} {ats : Array TypeId} {F j : Nat} {fs cs xs as zs : List AV} {e : TypeId} {z : Nat} {Y : AV} {d : Option Tmp} (hm : GOK m G) (hj : L.length = j) (ho : o.op = .call { callee := .value f, args := args, argTypes := ats }) (hd : o.dst = d) (hn : dstLt n d = true) (hG : gdS ops σ o.guard = some true)
    (hcf : ∀ (as : Array Value) (W : World), (callFunc F as).run P W = .ok (.enter F as) W)
    (hf : Ev true σ f (.fn (.func F) fs cs)) (hx : EvL true σ args.toList xs) (has : fs ++ xs ++ cs = as) (hF : FnNew P F as e z zs) (hY : optA o.guard true (.own (m + j) 0) = Y)
    (hr : ARun P ops n QQ l (ks ++ [.write]) (putS σ d Y) (G ++ (L ++ [.row 0 e z zs]))) : ARun P ops n QQ (o :: l) ks σ (G ++ L) := by
  have hl : (G ++ L).length = m + j := by rw [List.length_append, hm.1, hj]
  have := hF (G ++ L)
  rw [hl, List.append_assoc] at this
  exact ARun.callH ho hd hn hG hcf hf hx has this hY hr
end
end Go.Proofs.Ytopmppnnihdnaaa
