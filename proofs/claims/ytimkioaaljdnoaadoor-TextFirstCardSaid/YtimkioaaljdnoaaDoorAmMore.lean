/- The abstract machine: more operations. -/
import Derived.Test.YtimkioaaljdnoaaDoorAmLib
namespace Go.Proofs.YtimkioaaljdnoaaDoor
set_option linter.unusedVariables false
set_option linter.unusedSimpArgs false
open Go.RowKit
/-- a plain cell, as a value -/
def litV : AV → Value
  | .int k n => .int k n
  | .bool b => .bool b
  | .str s => .string s
  | _ => undef
def litOk : AV → Bool
  | .int _ _ => true
  | .bool _ => true
  | .str _ => true
  | _ => false
theorem VRep.litV {β : List Hd} {w : World} {u : Value} {x : AV} (h : VRep β w u x) (hx : litOk x = true) : u = litV x := by
  cases x <;> first | exact h.int_inv | exact h.bool_inv | exact h.str_inv | cases hx
section
variable {P : Program} {ops : Array Oper} {n m : Nat} {QQ : List Kd → Sl → List AO → Prop} {l : List Oper} {ks : List Kd} {σ : Sl} {G L H : List AO} {o : Oper} {gd : Bool}
theorem ARun.minmax3 {x y z : Operand} {b : Builtin} {ts : Array TypeId} {k : IntKind} {i j q r : Int} {Y : AV} {d : Option Tmp} (ho : o.op = .call { callee := .builtin b, args := #[x, y, z], argTypes := ts }) (hd : o.dst = d) (hn : dstLt n d = true) (hG : gdS ops σ o.guard = some gd)
    (hx : Ev gd σ x (.int k i)) (hy : Ev gd σ y (.int k j)) (hz : Ev gd σ z (.int k q)) (hb : (b = .min ∧ r = min (min i j) q) ∨ (b = .max ∧ r = max (max i j) q)) (hY : optA o.guard gd (.int k r) = Y)
    (hr : ARun P ops n QQ l (ks ++ [.pure]) (putS σ d Y) H) : ARun P ops n QQ (o :: l) ks σ H := by
  refine ARun.same hd hn hG hY (fun hg a W β hl => ⟨.int k r, ?_, .int _ _⟩) hr
  have h1 := (hx.rep hg hl (by simp [ho, Op.operands, Call.operands])).int_inv
  have h2 := (hy.rep hg hl (by simp [ho, Op.operands, Call.operands])).int_inv
  have h3 := (hz.rep hg hl (by simp [ho, Op.operands, Call.operands])).int_inv
  rcases hb with ⟨rfl, rfl⟩ | ⟨rfl, rfl⟩
  · have e1 : (if j < i then j else i) = min i j := by omega
    have e2 : (if q < min i j then q else min i j) = min (min i j) q := by omega
    have hm : (Builtin.min_ ts o.type #[.int k i, .int k j, .int k q]).run P W = .ok (.int k (min (min i j) q)) W := by simp [go_sem, e1, e2]
    simp [execOp, ho, resolve, h1, h2, h3, invoke, builtin, hm]
  · have e1 : (if i < j then j else i) = max i j := by omega
    have e2 : (if max i j < q then q else max i j) = max (max i j) q := by omega
    have hm : (Builtin.max_ ts o.type #[.int k i, .int k j, .int k q]).run P W = .ok (.int k (max (max i j) q)) W := by simp [go_sem, e1, e2]
    simp [execOp, ho, resolve, h1, h2, h3, invoke, builtin, hm]
/-- a place of an array that nobody writes -/
theorem ARun.indexPe {x y : Operand} {t e : TypeId} {len z j : Nat} {k : IntKind} {i : Int} {cs C : List AV} {Y : AV} {d : Option Tmp} (ho : o.op = .indexAddr t x y) (hd : o.dst = d) (hn : dstLt n d = true) (hG : gdS ops σ o.guard = some gd)
    (hu : P.underlying t = some (.array len e)) (hz : Sz P e z)
    (hx : Ev gd σ x (.pe cs)) (hy : Ev gd σ y (.int k i)) (hi : gd = true → i = (j : Int)) (hj : gd = true → j < len) (hC : (cs.drop (j * z)).take z = C) (hY : optA o.guard gd (.pe C) = Y)
    (hr : ARun P ops n QQ l (ks ++ [.pure]) (putS σ d Y) H) : ARun P ops n QQ (o :: l) ks σ H := by
  refine ARun.same hd hn hG hY (fun hg a W β hl => ?_) hr
  have h0 := hx.rep hg hl (by simp [ho, Op.operands])
  have h1 := (hy.rep hg hl (by simp [ho, Op.operands])).int_inv
  have hij := hi hg
  have hjx := hj hg
  subst hij
  subst hC
  generalize hv : a.eval x = v at h0
  cases h0 with
  | pe b off _ hb hS hdd h =>
    have hget : ∀ q y, ((cs.drop (j * z)).take z)[q]? = some y → cs[j * z + q]? = some y := by
      intro q y hq
      rw [List.getElem?_take] at hq
      split at hq
      · rw [List.getElem?_drop] at hq; exact hq
      · cases hq
    refine ⟨.pointer (some ⟨b, off + j * z, none⟩), ?_, .pe b _ _ hb hS (fun q y hq => ?_) (fun q y u hq hu2 => ?_)⟩
    · simp [execOp, ho, hv, h1, Instr.indexAt, asIntOf, run_underlying hu, hz.run, hjx, Instr.sureAddr, aadd]
    · rw [Nat.add_assoc]; exact hdd _ y (hget q y hq)
    · rw [Nat.add_assoc] at hu2; exact h _ y u (hget q y hq) hu2
/-- a slice's literal, of plain cells: what it is in memory stays known -/
theorem ARun.buildLit {t e : TypeId} {len : Nat} {parts : Array (Nat × Operand)} {ps : List (Nat × AV)} {z : Nat} {zv : Value} {C xs : List AV} {us : List Value} {Y : AV} {d : Option Tmp} (ho : o.op = .buildSlice t len parts) (hd : o.dst = d) (hn : dstLt n d = true) (hG : gdS ops σ o.guard = some gd)
    (hu : P.underlying t = some (.slice e)) (hz : Sz P e z) (hzv : Zv P e zv) (hbig : len * z ≤ 2 ^ 24)
    (hx : EvP gd σ parts.toList ps) (hs : (ps.all fun p => shaped p.2) = true) (hxs : ps.map (·.2) = xs)
    (hC : fillA (fun i => some (i * z, z)) ((List.range (len * z)).map fun j => cAV (zv.cells.toList.getD (j % zv.cells.size) default)) ps = some C) (hCx : C = xs.flatMap AV.cells) (hlit : (C.all litOk) = true) (hus : C.map litV = us) (hY : optA o.guard gd (.lit len e us) = Y)
    (hr : ARun P ops n QQ l (ks ++ [.pure]) (putS σ d Y) H) : ARun P ops n QQ (o :: l) ks σ H := by
  rw [← zeros_eq] at hC
  refine ARun.valH hd hn hG hY (fun hg a W β hβ hl => ?_) hr
  obtain ⟨vs', h1, h2⟩ := fill_rep (β := β) (w := W) (a := a) (fun i => some (i * z, z)) parts.toList ps hx (EvP.looks hg hl (by simp [ho, Op.operands])) hs _ _ C (CRep.zero β W ((Array.range (len * z)).map (zv.cells[· % zv.cells.size]!))) hC
  refine ⟨.slice (some ⟨W.heap.size, 0, none⟩) len len, W.alloc (.cells vs' e), ?_, (Below.refl _ _).alloc (Nat.le_refl _) _, ?_⟩
  · have hnb : ¬ len * z > 2 ^ 24 := by omega
    by_cases h0 : len * z = 0
    · have e1 : ((Array.range (len * z)).map (zv.cells[· % zv.cells.size]!)) = (#[] : Array Value) := by rw [h0]; simp
      rw [e1] at h1
      have e2 : Array.range 0 = #[] := rfl
      simp [execOp, ho, Instr.buildSlice, run_underlying hu, hz.run, h0, h1, e2, newRow]
    · simp [execOp, ho, Instr.buildSlice, run_underlying hu, hz.run, h0, hnb, hzv.run, h1, newRow]
  · have hv : vs'.toList = us := by
      rw [← hus]
      refine List.ext_getElem? fun j => ?_
      rw [List.getElem?_map]
      by_cases hj : j < C.length
      · have hj2 : j < vs'.size := by rw [h2.1]; exact hj
        have h3 := h2.2 j _ _ (Array.getElem?_eq_getElem hj2) (List.getElem?_eq_getElem hj)
        rw [Array.getElem?_toList, Array.getElem?_eq_getElem hj2, List.getElem?_eq_getElem hj, h3.litV (List.all_eq_true.1 hlit _ (List.getElem_mem hj))]; rfl
      · rw [List.getElem?_eq_none (by simp [h2.1]; omega), List.getElem?_eq_none (by omega)]; rfl
    refine .lit W.heap.size len e us (by simp) (fun y hy e => by have := hβ y hy _ e; omega) ?_
    rw [← hv]
    exact heap_alloc_new W _
/-- a literal, with more behind it: a slice of its own -/
theorem ARun.appendLit {x y : Operand} {t e : TypeId} {k z by_ : Nat} {zv : Value} {us : List Value} {xs ys zs : List AV} {d : Option Tmp} {Y : AV} (ho : o.op = .call { callee := .builtin .append, args := #[x, y], argTypes := #[t, t] }) (hd : o.dst = d) (hn : dstLt n d = true) (hG : gdS ops σ o.guard = some gd)
    (hu : P.underlying t = some (.slice e)) (hT : Ti P e zv z by_) (hzs : zv.cells.size = z) (hz0 : 0 < z)
    (hx : Ev gd σ x (.lit k e us)) (hy : Ev gd σ y (.sl ys)) (hk : 0 < k) (hxl : xs.length = k) (hxs : us.map cAV = xs.flatMap AV.cells) (hall : (xs.all fun x => Nat.beq x.cells.length z) = true)
    (hys : gd = true → (ys.all fun y => Nat.beq y.cells.length z) = true) (hm : gd = true → k + ys.length ≤ maxLen) (hby : gd = true → (k + ys.length) * by_ ≤ 140737488355328) (hzz : xs ++ ys = zs) (hY : optA o.guard gd (.sl zs) = Y)
    (hr : ARun P ops n QQ l (ks ++ [.pure]) (putS σ d Y) H) : ARun P ops n QQ (o :: l) ks σ H := by
  refine ARun.valH hd hn hG hY (fun hg a W β hβ hl => ?_) hr
  subst hzz
  have hm := hm hg
  have hby := hby hg
  have hxz : ∀ x, x ∈ xs → x.cells.length = z := fun x hx => Nat.eq_of_beq_eq_true (List.all_eq_true.1 hall x hx)
  have hyz : ∀ y, y ∈ ys → y.cells.length = z := fun y hy => Nat.eq_of_beq_eq_true (List.all_eq_true.1 (hys hg) y hy)
  have hul : us.length = k * z := by
    have := congrArg List.length hxs
    rw [List.length_map, flat_len' xs hxz, hxl] at this; exact this
  have hallz : ∀ x, x ∈ xs ++ ys → x.cells.length = z := fun x hx => by
    rcases List.mem_append.1 hx with hx | hx
    · exact hxz x hx
    · exact hyz x hx
  have h0 := hx.rep hg hl (by simp [ho, Op.operands, Call.operands])
  have h1 := hy.rep hg hl (by simp [ho, Op.operands, Call.operands])
  generalize hvx : a.eval x = v at h0
  generalize hvy : a.eval y = w at h1
  obtain ⟨ti, hti, htz, hts, htb⟩ : ∃ ti, P.info? e = some ti ∧ ti.zero = some zv ∧ ti.size = z ∧ ti.bytes = by_ := by
    unfold Ti at hT
    cases hi : P.info? e with
    | none => rw [hi] at hT; cases hT
    | some i => rw [hi] at hT; simp at hT; exact ⟨i, rfl, hT⟩
  obtain ⟨b, rfl, hb, hS, hhp⟩ : ∃ b, v = .slice (some ⟨b, 0, none⟩) k k ∧ b < W.heap.size ∧ Still β b ∧ W.heap[b]? = some (.cells us.toArray e (0, 0)) := by
    cases h0 with
    | lit b _ _ _ hb hS hh => exact ⟨b, rfl, hb, hS, hh⟩
  have hcell : ∀ q, W.cell? ⟨b, q, none⟩ = us[q]? := fun q => by simp [World.cell?, hhp]
  have hexec : ∀ v' w', (Builtin.append_ #[t, t] o.type #[.slice (some ⟨b, 0, none⟩) k k, w]).run P W = .ok v' w' → (execOp a.eval o).run P W = .ok (.value v') w' := by
    intro v' w' hrun
    simp [execOp, ho, resolve, hvx, hvy, invoke, builtin, hrun]
  -- nothing more
  have hsame : VRep β W (.slice (some ⟨b, 0, none⟩) k k) (.sl xs) := by
    have : VRep β W (.slice (some ⟨b, 0, none⟩) xs.length k) (.sl xs) := by
      refine .sl b 0 k z xs (by omega) (by omega) hb hS hxz (fun i j x y hi hj => ?_) (fun i j x y u hi hj hu2 => ?_)
      · have h7 := flat_at xs hxz i j x y hi hj
        rw [← hxs, List.getElem?_map, Option.map_eq_some_iff] at h7
        obtain ⟨u, h8, _⟩ := h7
        exact ⟨u, by rw [Nat.zero_add, hcell]; exact h8⟩
      · have h7 := flat_at xs hxz i j x y hi hj
        rw [← hxs, List.getElem?_map, Option.map_eq_some_iff] at h7
        obtain ⟨u', h8, rfl⟩ := h7
        rw [Nat.zero_add, hcell, h8] at hu2
        cases hu2
        exact cAV_rep _ _ _
    rwa [hxl] at this
  cases h1 with
  | slnil =>
    refine ⟨_, W, hexec _ _ ?_, Below.refl _ _, by rw [List.append_nil]; exact hsame⟩
    simp [Builtin.append_, run_underlying hu, hT.sz.run, Builtin.lenOf, run_firstCells_none, storeCells]
  | slemp p cap hmm =>
    refine ⟨_, W, hexec _ _ ?_, Below.refl _ _, by rw [List.append_nil]; exact hsame⟩
    have hf := run_firstCells_some (P := P) W z 0 p 0 cap [] (by simp) (by simp)
    simp [Builtin.append_, run_underlying hu, hT.sz.run, Builtin.lenOf, hf, storeCells]
  | sl b2 off cap z' _ hc hmm hb2 hS2 hz' hdd h =>
    by_cases hy0 : ys = []
    · subst hy0
      refine ⟨_, W, hexec _ _ ?_, Below.refl _ _, by rw [List.append_nil]; exact hsame⟩
      have hf := run_firstCells_some (P := P) W z 0 ⟨b2, off, none⟩ 0 cap [] (by simp) (by simp)
      simp [Builtin.append_, run_underlying hu, hT.sz.run, Builtin.lenOf, hf, storeCells]
    · have hyp : 0 < ys.length := List.length_pos_iff.2 hy0
      have hcells : ∃ news : List Value, news.length = ys.length * z ∧ (∀ (j : Nat) (u : Value), news[j]? = some u → W.cell? ⟨b2, off + j, none⟩ = some u) ∧ ∀ (j : Nat) (u : Value) (y : AV), news[j]? = some u → (ys.flatMap AV.cells)[j]? = some y → VRep β W u y := by
        obtain ⟨y0, hy0⟩ := List.exists_mem_of_length_pos hyp
        have ez : z' = z := by rw [← hz' y0 hy0, hyz y0 hy0]
        subst ez
        exact sl_cells ys off hyz hdd h
      obtain ⟨news, k1, k2, k3⟩ := hcells
      have hr := run_append_grow (P := P) W t o.type e ti zv hu hti htz ⟨b, 0, none⟩ k k us (by rw [hts]; exact hul) (fun j u hj => by rw [aadd, Nat.zero_add, hcell]; exact hj) ⟨b2, off, none⟩ ys.length cap news (by rw [hts]; exact k1) (fun j u hj => by rw [aadd]; exact k2 j u hj) (by omega) (by simp only [maxLen] at hm; omega) (growslice_fits (by omega) (by rw [htb]; exact hby))
      refine ⟨_, _, hexec _ _ hr, ?_, ?_⟩
      · exact ⟨rfl, rfl, rfl, by simp, fun q hq => heap_alloc_old W.drew _ hq⟩
      · have hge := grownCap_ge W (k + ys.length) k e
        have hcm : grownCap W (k + ys.length) k e ≤ maxLen := grownCap_le_maxLen W (k + ys.length) k e hm
        have hbw : Below W.heap.size W (W.drew.alloc (.cells (us.toArray ++ news.toArray ++ Builtin.zeroCells zv.cells (grownCap W (k + ys.length) k e - (k + ys.length))) e)) := ⟨rfl, rfl, rfl, by simp, fun q hq => heap_alloc_old W.drew _ hq⟩
        have hnew : ∀ (q : Nat) (u : Value), (us ++ news)[q]? = some u → (W.drew.alloc (.cells (us.toArray ++ news.toArray ++ Builtin.zeroCells zv.cells (grownCap W (k + ys.length) k e - (k + ys.length))) e)).cell? ⟨W.heap.size, q, none⟩ = some u := by
          intro q u hq
          rw [show W.heap.size = W.drew.heap.size from rfl, World.cell?_alloc_new]
          have hlt : q < (us ++ news).length := (List.getElem?_eq_some_iff.1 hq).1
          rw [Array.getElem?_append_left (by simpa using hlt)]
          rw [show us.toArray ++ news.toArray = (us ++ news).toArray by simp]
          simpa using hq
        have hrep : ∀ (q : Nat) (u : Value) (y : AV), (us ++ news)[q]? = some u → ((xs ++ ys).flatMap AV.cells)[q]? = some y → VRep β W u y := by
          intro q u y p1 p2
          rw [List.flatMap_append, ← hxs] at p2
          by_cases hq : q < us.length
          · rw [List.getElem?_append_left hq] at p1
            rw [List.getElem?_append_left (by simpa using hq), List.getElem?_map, p1] at p2
            cases p2; exact cAV_rep _ _ _
          · rw [List.getElem?_append_right (by omega)] at p1
            rw [List.getElem?_append_right (by simp; omega), List.length_map] at p2
            exact k3 _ u y p1 p2
        have hlen : k + ys.length = (xs ++ ys).length := by rw [List.length_append, hxl]
        have htot : (us ++ news).length = (xs ++ ys).length * z := by rw [List.length_append, hul, k1, List.length_append, hxl, Nat.add_mul]
        have : VRep β (W.drew.alloc (.cells (us.toArray ++ news.toArray ++ Builtin.zeroCells zv.cells (grownCap W (k + ys.length) k e - (k + ys.length))) e)) (.slice (some ⟨W.heap.size, 0, none⟩) (xs ++ ys).length (grownCap W (k + ys.length) k e)) (.sl (xs ++ ys)) := by
          refine .sl W.heap.size 0 _ z (xs ++ ys) (by rw [← hlen]; exact hge) hcm (by simp) (fun y hy e2 => by have := hβ y hy _ e2; omega) hallz (fun i j x y hi hj => ?_) (fun i j x y u hi hj hu2 => ?_)
          · have h7 := flat_at _ hallz i j x y hi hj
            have hlt : i * z + j < (us ++ news).length := by rw [htot, ← flat_len' _ hallz]; exact (List.getElem?_eq_some_iff.1 h7).1
            exact ⟨_, by rw [Nat.zero_add]; exact hnew _ _ (List.getElem?_eq_getElem hlt)⟩
          · have h7 := flat_at _ hallz i j x y hi hj
            have hlt : i * z + j < (us ++ news).length := by rw [htot, ← flat_len' _ hallz]; exact (List.getElem?_eq_some_iff.1 h7).1
            rw [Nat.zero_add, hnew _ _ (List.getElem?_eq_getElem hlt)] at hu2
            cases hu2
            exact (hrep _ _ y (List.getElem?_eq_getElem hlt) h7).ext (Ext.of_below β hbw)
        rwa [← hlen] at this
theorem plain_cells {u : Value} (h : plainV u = true) : (cAV u).cells = [cAV u] := by cases u <;> first | rfl | cases h
/-- a literal of plain cells, with more behind it -/
theorem ARun.appendLit1 {x y : Operand} {t e : TypeId} {k by_ : Nat} {zv : Value} {us : List Value} {ys zs : List AV} {d : Option Tmp} {Y : AV} (ho : o.op = .call { callee := .builtin .append, args := #[x, y], argTypes := #[t, t] }) (hd : o.dst = d) (hn : dstLt n d = true) (hG : gdS ops σ o.guard = some gd)
    (hu : P.underlying t = some (.slice e)) (hT : Ti P e zv 1 by_) (hzs : zv.cells.size = 1)
    (hx : Ev gd σ x (.lit k e us)) (hy : Ev gd σ y (.sl ys)) (hk : 0 < k) (hxl : us.length = k) (hpl : us.all plainV = true)
    (hys : gd = true → (ys.all fun y => Nat.beq y.cells.length 1) = true) (hm : gd = true → k + ys.length ≤ maxLen) (hby : gd = true → (k + ys.length) * by_ ≤ 140737488355328) (hzz : us.map cAV ++ ys = zs) (hY : optA o.guard gd (.sl zs) = Y)
    (hr : ARun P ops n QQ l (ks ++ [.pure]) (putS σ d Y) H) : ARun P ops n QQ (o :: l) ks σ H := by
  have hp : ∀ u, u ∈ us → plainV u = true := List.all_eq_true.1 hpl
  refine ARun.appendLit (xs := us.map cAV) ho hd hn hG hu hT hzs (by decide) hx hy hk (by simpa using hxl) ?_ ?_ hys hm hby hzz hY hr
  · clear hx hxl hpl hzz
    induction us with
    | nil => rfl
    | cons u us ih => rw [List.map_cons, List.flatMap_cons, plain_cells (hp u List.mem_cons_self), ← ih (fun v hv => hp v (List.mem_cons_of_mem _ hv))]; rfl
  · rw [List.all_eq_true]
    intro x hx
    obtain ⟨u, hu, rfl⟩ := List.mem_map.1 hx
    rw [plain_cells (hp u hu)]; rfl
end
theorem VRep.lit_inv {β : List Hd} {w : World} {v : Value} {n : Nat} {e : TypeId} {us : List Value} (h : VRep β w v (.lit n e us)) : ∃ b, v = .slice (some ⟨b, 0, none⟩) n n ∧ b < w.heap.size ∧ Still β b ∧ w.heap[b]? = some (.cells us.toArray e (0, 0)) := by
  cases h with
  | lit b _ _ _ hb hS hh => exact ⟨b, rfl, hb, hS, hh⟩
end Go.Proofs.YtimkioaaljdnoaaDoor
