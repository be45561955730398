/- The abstract machine: more operations. -/
import Derived.Test.YtopmppnnihdnaaaAmLib
namespace Go.Proofs.Ytopmppnnihdnaaa
set_option linter.unusedVariables false
set_option linter.unusedSimpArgs false
open Go.RowKit
/-- a plain cell, as a value -/
def litV : AV → Value
  | .int k n => .int k n
  | .bool b => .bool b
  | .str s => .string s
  | _ => undef
def litOk : AV → Bool
  | .int _ _ => true
  | .bool _ => true
  | .str _ => true
  | _ => false
theorem VRep.litV {β : List Hd} {w : World} {u : Value} {x : AV} (h : VRep β w u x) (hx : litOk x = true) : u = litV x := by
  cases x <;> first | exact h.int_inv | exact h.bool_inv | exact h.str_inv | cases hx
section
variable {P : Program} {ops : Array Oper} {n m : Nat} {QQ : List Kd → Sl → List AO → Prop} {l : List Oper} {ks : List Kd} {σ : Sl} {G L H : List AO} {o : Oper} {gd : Bool}
theorem ARun.minmax3 {x y z : Operand} {b : Builtin} {ts : Array TypeId} {k : IntKind} {i j q r : Int} {Y : AV} {d : Option Tmp} (ho : o.op = .call { callee := .builtin b, args := #[x, y, z], argTypes := ts }) (hd : o.dst = d) (hn : dstLt n d = true) (hG : gdS ops σ o.guard = some gd)
    (hx : Ev gd σ x (.int k i)) (hy : Ev gd σ y (.int k j)) (hz : Ev gd σ z (.int k q)) (hb : (b = .min ∧ r = min (min i j) q) ∨ (b = .max ∧ r = max (max i j) q)) (hY : optA o.guard gd (.int k r) = Y)
    (hr : ARun P ops n QQ l (ks ++ [.pure]) (putS σ d Y) H) : ARun P ops n QQ (o :: l) ks σ H := by
  refine ARun.same hd hn hG hY (fun hg a W β hl => ⟨.int k r, ?_, .int _ _⟩) hr
  have h1 := (hx.rep hg hl (by simp [ho, Op.operands, Call.operands])).int_inv
  have h2 := (hy.rep hg hl (by simp [ho, Op.operands, Call.operands])).int_inv
  have h3 := (hz.rep hg hl (by simp [ho, Op.operands, Call.operands])).int_inv
  rcases hb with ⟨rfl, rfl⟩ | ⟨rfl, rfl⟩
  · have e1 : (if j < i then j else i) = min i j := by omega
    have e2 : (if q < min i j then q else min i j) = min (min i j) q := by omega
    have hm : (Builtin.min_ ts o.type #[.int k i, .int k j, .int k q]).run P W = .ok (.int k (min (min i j) q)) W := by simp [go_sem, e1, e2]
    simp [execOp, ho, resolve, h1, h2, h3, invoke, builtin, hm]
  · have e1 : (if i < j then j else i) = max i j := by omega
    have e2 : (if max i j < q then q else max i j) = max (max i j) q := by omega
    have hm : (Builtin.max_ ts o.type #[.int k i, .int k j, .int k q]).run P W = .ok (.int k (max (max i j) q)) W := by simp [go_sem, e1, e2]
    simp [execOp, ho, resolve, h1, h2, h3, invoke, builtin, hm]
/-- a place of an array that nobody writes -/
theorem ARun.indexPe {x y : Operand} {t e : TypeId} {len z j : Nat} {k : IntKind} {i : Int} {cs C : List AV} {Y : AV} {d : Option Tmp} (ho : o.op = .indexAddr t x y) (hd : o.dst = d) (hn : dstLt n d = true) (hG : gdS ops σ o.guard = some gd)
    (hu : P.underlying t = some (.array len e)) (hz : Sz P e z)
    (hx : Ev gd σ x (.pe cs)) (hy : Ev gd σ y (.int k i)) (hi : gd = true → i = (j : Int)) (hj : gd = true → j < len) (hC : (cs.drop (j * z)).take z = C) (hY : optA o.guard gd (.pe C) = Y)
    (hr : ARun P ops n QQ l (ks ++ [.pure]) (putS σ d Y) H) : ARun P ops n QQ (o :: l) ks σ H := by
  refine ARun.same hd hn hG hY (fun hg a W β hl => ?_) hr
  have h0 := hx.rep hg hl (by simp [ho, Op.operands])
  have h1 := (hy.rep hg hl (by simp [ho, Op.operands])).int_inv
  have hij := hi hg
  have hjx := hj hg
  subst hij
  subst hC
  generalize hv : a.eval x = v at h0
  cases h0 with
  | pe b off _ hb hS hdd h =>
    have hget : ∀ q y, ((cs.drop (j * z)).take z)[q]? = some y → cs[j * z + q]? = some y := by
      intro q y hq
      rw [List.getElem?_take] at hq
      split at hq
      · rw [List.getElem?_drop] at hq; exact hq
      · cases hq
    refine ⟨.pointer (some ⟨b, off + j * z, none⟩), ?_, .pe b _ _ hb hS (fun q y hq => ?_) (fun q y u hq hu2 => ?_)⟩
    · simp [execOp, ho, hv, h1, Instr.indexAt, asIntOf, run_underlying hu, hz.run, hjx, Instr.sureAddr, aadd]
    · rw [Nat.add_assoc]; exact hdd _ y (hget q y hq)
    · rw [Nat.add_assoc] at hu2; exact h _ y u (hget q y hq) hu2
/-- a slice's literal, of plain cells: what it is in memory stays known -/
theorem ARun.buildLit {t e : TypeId} {len : Nat} {parts : Array (Nat × Operand)} {ps : List (Nat × AV)} {z : Nat} {zv : Value} {C xs : List AV} {us : List Value} {Y : AV} {d : Option Tmp} (ho : o.op = .buildSlice t len parts) (hd : o.dst = d) (hn : dstLt n d = true) (hG : gdS ops σ o.guard = some gd)
    (hu : P.underlying t = some (.slice e)) (hz : Sz P e z) (hzv : Zv P e zv) (hbig : len * z ≤ 2 ^ 24)
    (hx : EvP gd σ parts.toList ps) (hs : (ps.all fun p => shaped p.2) = true) (hxs : ps.map (·.2) = xs)
    (hC : fillA (fun i => some (i * z, z)) ((List.range (len * z)).map fun j => cAV (zv.cells.toList.getD (j % zv.cells.size) default)) ps = some C) (hCx : C = xs.flatMap AV.cells) (hlit : (C.all litOk) = true) (hus : C.map litV = us) (hY : optA o.guard gd (.lit len e us) = Y)
    (hr : ARun P ops n QQ l (ks ++ [.pure]) (putS σ d Y) H) : ARun P ops n QQ (o :: l) ks σ H := by
  rw [← zeros_eq] at hC
  refine ARun.valH hd hn hG hY (fun hg a W β hβ hl => ?_) hr
  obtain ⟨vs', h1, h2⟩ := fill_rep (β := β) (w := W) (a := a) (fun i => some (i * z, z)) parts.toList ps hx (EvP.looks hg hl (by simp [ho, Op.operands])) hs _ _ C (CRep.zero β W ((Array.range (len * z)).map (zv.cells[· % zv.cells.size]!))) hC
  refine ⟨.slice (some ⟨W.heap.size, 0, none⟩) len len, W.alloc (.cells vs' e), ?_, (Below.refl _ _).alloc (Nat.le_refl _) _, ?_⟩
  · have hnb : ¬ len * z > 2 ^ 24 := by omega
    by_cases h0 : len * z = 0
    · have e1 : ((Array.range (len * z)).map (zv.cells[· % zv.cells.size]!)) = (#[] : Array Value) := by rw [h0]; simp
      rw [e1] at h1
      have e2 : Array.range 0 = #[] := rfl
      simp [execOp, ho, Instr.buildSlice, run_underlying hu, hz.run, h0, h1, e2, newRow]
    · simp [execOp, ho, Instr.buildSlice, run_underlying hu, hz.run, h0, hnb, hzv.run, h1, newRow]
  · have hv : vs'.toList = us := by
      rw [← hus]
      refine List.ext_getElem? fun j => ?_
      rw [List.getElem?_map]
      by_cases hj : j < C.length
      · have hj2 : j < vs'.size := by rw [h2.1]; exact hj
        have h3 := h2.2 j _ _ (Array.getElem?_eq_getElem hj2) (List.getElem?_eq_getElem hj)
        rw [Array.getElem?_toList, Array.getElem?_eq_getElem hj2, List.getElem?_eq_getElem hj, h3.litV (List.all_eq_true.1 hlit _ (List.getElem_mem hj))]; rfl
      · rw [List.getElem?_eq_none (by simp [h2.1]; omega), List.getElem?_eq_none (by omega)]; rfl
    refine .lit W.heap.size len e us (by simp) (fun y hy e => by have := hβ y hy _ e; omega) ?_
    rw [← hv]
    exact heap_alloc_new W _
/-- a literal, with more behind it: a slice of its own -/
theorem ARun.appendLit {x y : Operand} {t e : TypeId} {k z by_ : Nat} {zv : Value} {us : List Value} {xs ys zs : List AV} {d : Option Tmp} {Y : AV} (ho : o.op = .call { callee := .builtin .append, args := #[x, y], argTypes := #[t, t] }) (hd : o.dst = d) (hn : dstLt n d = true) (hG : gdS ops σ o.guard = some gd)
    (hu : P.underlying t = some (.slice e)) (hT : Ti P e zv z by_) (hzs : zv.cells.size = z) (hz0 : 0 < z)
    (hx : Ev gd σ x (.lit k e us)) (hy : Ev gd σ y (.sl ys)) (hk : 0 < k) (hxl : xs.length = k) (hxs : us.map cAV = xs.flatMap AV.cells) (hall : (xs.all fun x => Nat.beq x.cells.length z) = true)
    (hys : gd = true → (ys.all fun y => Nat.beq y.cells.length z) = true) (hm : gd = true → k + ys.length ≤ maxLen) (hby : gd = true → (k + ys.length) * by_ ≤ 140737488355328) (hzz : xs ++ ys = zs) (hY : optA o.guard gd (.sl zs) = Y)
    (hr : ARun P ops n QQ l (ks ++ [.pure]) (putS σ d Y) H) : ARun P ops n QQ (o :: l) ks σ H := by
  refine ARun.valH hd hn hG hY (fun hg a W β hβ hl => ?_) hr
  subst hzz
  have hm := hm hg
  have hby := hby hg
  have hxz : ∀ x, x ∈ xs → x.cells.length = z := fun x hx => Nat.eq_of_beq_eq_true (List.all_eq_true.1 hall x hx)
  have hyz : ∀ y, y ∈ ys → y.cells.length = z := fun y hy => Nat.eq_of_beq_eq_true (List.all_eq_true.1 (hys hg) y hy)
  have hul : us.length = k * z := by
    have := congrArg List.length hxs
    rw [List.length_map, flat_len' xs hxz, hxl] at this; exact this
  have hallz : ∀ x, x ∈ xs ++ ys → x.cells.length = z := fun x hx => by
    rcases List.mem_append.1 hx with hx | hx
    · exact hxz x hx
    · exact hyz x hx
  have h0 := hx.rep hg hl (by simp [ho, Op.operands, Call.operands])
  have h1 := hy.rep hg hl (by simp [ho, Op.operands, Call.operands])
  generalize hvx : a.eval x = v at h0
  generalize hvy : a.eval y = w at h1
  obtain ⟨ti, hti, htz, hts, htb⟩ : ∃ ti, P.info? e = some ti ∧ ti.zero = some zv ∧ ti.size = z ∧ ti.bytes = by_ := by
    unfold Ti at hT
    cases hi : P.info? e with
    | none => rw [hi] at hT; cases hT
    | some i => rw [hi] at hT; simp at hT; exact ⟨i, rfl, hT⟩
  obtain ⟨b, rfl, hb, hS, hhp⟩ : ∃ b, v = .slice (some ⟨b, 0, none⟩) k k ∧ b < W.heap.size ∧ Still β b ∧ W.heap[b]? = some (.cells us.toArray e (0, 0)) := by
    cases h0 with
    | lit b _ _ _ hb hS hh => exact ⟨b, rfl, hb, hS, hh⟩
  have hcell : ∀ q, W.cell? ⟨b, q, none⟩ = us[q]? := fun q => by simp [World.cell?, hhp]
  have hexec : ∀ v' w', (Builtin.append_ #[t, t] o.type #[.slice (some ⟨b, 0, none⟩) k k, w]).run P W = .ok v' w' → (execOp a.eval o).run P W = .ok (.value v') w' := by
    intro v' w' hrun
    simp [execOp, ho, resolve, hvx, hvy, invoke, builtin, hrun]
  -- nothing more
  have hsame : VRep β W (.slice (some ⟨b, 0, none⟩) k k) (.sl xs) := by
    have : VRep β W (.slice (some ⟨b, 0, none⟩) xs.length k) (.sl xs) := by
      refine .sl b 0 k z xs (by omega) (by omega) hb hS hxz (fun i j x y hi hj => ?_) (fun i j x y u hi hj hu2 => ?_)
      · have h7 := flat_at xs hxz i j x y hi hj
        rw [← hxs, List.getElem?_map, Option.map_eq_some_iff] at h7
        obtain ⟨u, h8, _⟩ := h7
        exact ⟨u, by rw [Nat.zero_add, hcell]; exact h8⟩
      · have h7 := flat_at xs hxz i j x y hi hj
        rw [← hxs, List.getElem?_map, Option.map_eq_some_iff] at h7
        obtain ⟨u', h8, rfl⟩ := h7
        rw [Nat.zero_add, hcell, h8] at hu2
        cases hu2
        exact cAV_rep _ _ _
    rwa [hxl] at this
  cases h1 with
  | slnil =>
    refine ⟨_, W, hexec _ _ ?_, Below.refl _ _, by rw [List.append_nil]; exact hsame⟩
    simp [Builtin.append_, run_underlying hu, hT.sz.run, Builtin.lenOf, run_firstCells_none, storeCells]
  | slemp p cap hmm =>
    refine ⟨_, W, hexec _ _ ?_, Below.refl _ _, by rw [List.append_nil]; exact hsame⟩
    have hf := run_firstCells_some (P := P) W z 0 p 0 cap [] (by simp) (by simp)
    simp [Builtin.append_, run_underlying hu, hT.sz.run, Builtin.lenOf, hf, storeCells]
  | sl b2 off cap z' _ hc hmm hb2 hS2 hz' hdd h =>
    by_cases hy0 : ys = []
    · subst hy0
      refine ⟨_, W, hexec _ _ ?_, Below.refl _ _, by rw [List.append_nil]; exact hsame⟩
      have hf := run_firstCells_some (P := P) W z 0 ⟨b2, off, none⟩ 0 cap [] (by simp) (by simp)
      simp [Builtin.append_, run_underlying hu, hT.sz.run, Builtin.lenOf, hf, storeCells]
    · have hyp : 0 < ys.length := List.length_pos_iff.2 hy0
      have hcells : ∃ news : List Value, news.length = ys.length * z ∧ (∀ (j : Nat) (u : Value), news[j]? = some u → W.cell? ⟨b2, off + j, none⟩ = some u) ∧ ∀ (j : Nat) (u : Value) (y : AV), news[j]? = some u → (ys.flatMap AV.cells)[j]? = some y → VRep β W u y := by
        obtain ⟨y0, hy0⟩ := List.exists_mem_of_length_pos hyp
        have ez : z' = z := by rw [← hz' y0 hy0, hyz y0 hy0]
        subst ez
        exact sl_cells ys off hyz hdd h
      obtain ⟨news, k1, k2, k3⟩ := hcells
      have hr := run_append_grow (P := P) W t o.type e ti zv hu hti htz ⟨b, 0, none⟩ k k us (by rw [hts]; exact hul) (fun j u hj => by rw [aadd, Nat.zero_add, hcell]; exact hj) ⟨b2, off, none⟩ ys.length cap news (by rw [hts]; exact k1) (fun j u hj => by rw [aadd]; exact k2 j u hj) (by omega) (by simp only [maxLen] at hm; omega) (growslice_fits (by omega) (by rw [htb]; exact hby))
      refine ⟨_, _, hexec _ _ hr, ?_, ?_⟩
      · exact ⟨rfl, rfl, rfl, by simp, fun q hq => heap_alloc_old W.drew _ hq⟩
      · have hge := grownCap_ge W (k + ys.length) k e
        have hcm : grownCap W (k + ys.length) k e ≤ maxLen := grownCap_le_maxLen W (k + ys.length) k e hm
        have hbw : Below W.heap.size W (W.drew.alloc (.cells (us.toArray ++ news.toArray ++ Builtin.zeroCells zv.cells (grownCap W (k + ys.length) k e - (k + ys.length))) e)) := ⟨rfl, rfl, rfl, by simp, fun q hq => heap_alloc_old W.drew _ hq⟩
        have hnew : ∀ (q : Nat) (u : Value), (us ++ news)[q]? = some u → (W.drew.alloc (.cells (us.toArray ++ news.toArray ++ Builtin.zeroCells zv.cells (grownCap W (k + ys.length) k e - (k + ys.length))) e)).cell? ⟨W.heap.size, q, none⟩ = some u := by
          intro q u hq
          rw [show W.heap.size = W.drew.heap.size from rfl, World.cell?_alloc_new]
          have hlt : q < (us ++ news).length := (List.getElem?_eq_some_iff.1 hq).1
          rw [Array.getElem?_append_left (by simpa using hlt)]
          rw [show us.toArray ++ news.toArray = (us ++ news).toArray by simp]
          simpa using hq
        have hrep : ∀ (q : Nat) (u : Value) (y : AV), (us ++ news)[q]? = some u → ((xs ++ ys).flatMap AV.cells)[q]? = some y → VRep β W u y := by
          intro q u y p1 p2
          rw [List.flatMap_append, ← hxs] at p2
          by_cases hq : q < us.length
          · rw [List.getElem?_append_left hq] at p1
            rw [List.getElem?_append_left (by simpa using hq), List.getElem?_map, p1] at p2
            cases p2; exact cAV_rep _ _ _
          · rw [List.getElem?_append_right (by omega)] at p1
            rw [List.getElem?_append_right (by simp; omega), List.length_map] at p2
            exact k3 _ u y p1 p2
        have hlen : k + ys.length = (xs ++ ys).length := by rw [List.length_append, hxl]
        have htot : (us ++ news).length = (xs ++ ys).length * z := by rw [List.length_append, hul, k1, List.length_append, hxl, Nat.add_mul]
        have : VRep β (W.drew.alloc (.cells (us.toArray ++ news.toArray ++ Builtin.zeroCells zv.cells (grownCap W (k + ys.length) k e - (k + ys.length))) e)) (.slice (some ⟨W.heap.size, 0, none⟩) (xs ++ ys).length (grownCap W (k + ys.length) k e)) (.sl (xs ++ ys)) := by
          refine .sl W.heap.size 0 _ z (xs ++ ys) (by rw [← hlen]; exact hge) hcm (by simp) (fun y hy e2 => by have := hβ y hy _ e2; omega) hallz (fun i j x y hi hj => ?_) (fun i j x y u hi hj hu2 => ?_)
          · have h7 := flat_at _ hallz i j x y hi hj
            have hlt : i * z + j < (us ++ news).length := by rw [htot, ← flat_len' _ hallz]; exact (List.getElem?_eq_some_iff.1 h7).1
            exact ⟨_, by rw [Nat.zero_add]; exact hnew _ _ (List.getElem?_eq_getElem hlt)⟩
          · have h7 := flat_at _ hallz i j x y hi hj
            have hlt : i * z + j < (us ++ news).length := by rw [htot, ← flat_len' _ hallz]; exact (List.getElem?_eq_some_iff.1 h7).1
            rw [Nat.zero_add, hnew _ _ (List.getElem?_eq_getElem hlt)] at hu2
            cases hu2
            exact (hrep _ _ y (List.getElem?_eq_getElem hlt) h7).ext (Ext.of_below β hbw)
        rwa [← hlen] at this
theorem plain_cells {u : Value} (h : plainV u = true) : (cAV u).cells = [cAV u] := by cases u <;> first | rfl | cases h
/-- a literal of plain cells, with more behind it -/
theorem ARun.appendLit1 {x y : Operand} {t e : TypeId} {k by_ : Nat} {zv : Value} {us : List Value} {ys zs : List AV} {d : Option Tmp} {Y : AV} (ho : o.op = .call { callee := .builtin .append, args := #[x, y], argTypes := #[t, t] }) (hd : o.dst = d) (hn : dstLt n d = true) (hG : gdS ops σ o.guard = some gd)
    (hu : P.underlying t = some (.slice e)) (hT : Ti P e zv 1 by_) (hzs : zv.cells.size = 1)
    (hx : Ev gd σ x (.lit k e us)) (hy : Ev gd σ y (.sl ys)) (hk : 0 < k) (hxl : us.length = k) (hpl : us.all plainV = true)
    (hys : gd = true → (ys.all fun y => Nat.beq y.cells.length 1) = true) (hm : gd = true → k + ys.length ≤ maxLen) (hby : gd = true → (k + ys.length) * by_ ≤ 140737488355328) (hzz : us.map cAV ++ ys = zs) (hY : optA o.guard gd (.sl zs) = Y)
    (hr : ARun P ops n QQ l (ks ++ [.pure]) (putS σ d Y) H) : ARun P ops n QQ (o :: l) ks σ H := by
  have hp : ∀ u, u ∈ us → plainV u = true := List.all_eq_true.1 hpl
  refine ARun.appendLit (xs := us.map cAV) ho hd hn hG hu hT hzs (by decide) hx hy hk (by simpa using hxl) ?_ ?_ hys hm hby hzz hY hr
  · clear hx hxl hpl hzz
    induction us with
    | nil => rfl
    | cons u us ih => rw [List.map_cons, List.flatMap_cons, plain_cells (hp u List.mem_cons_self), ← ih (fun v hv => hp v (List.mem_cons_of_mem _ hv))]; rfl
  · rw [List.all_eq_true]
    intro x hx
    obtain ⟨u, hu, rfl⟩ := List.mem_map.1 hx
    rw [plain_cells (hp u hu)]; rfl
end
theorem VRep.lit_inv {β : List Hd} {w : World} {v : Value} {n : Nat} {e : TypeId} {us : List Value} (h : VRep β w v (.lit n e us)) : ∃ b, v = .slice (some ⟨b, 0, none⟩) n n ∧ b < w.heap.size ∧ Still β b ∧ w.heap[b]? = some (.cells us.toArray e (0, 0)) := by
  cases h with
  | lit b _ _ _ hb hS hh => exact ⟨b, rfl, hb, hS, hh⟩
section
variable {P : Program} {ops : Array Oper} {n m : Nat} {QQ : List Kd → Sl → List AO → Prop} {l : List Oper} {ks : List Kd} {σ : Sl} {G L H : List AO} {o : Oper} {gd : Bool}
/-- a struct's literal, one slice of which will grow: nil as yet -/
theorem ARun.buildNil {t e : TypeId} {z j p : Nat} {parts : Array (Nat × Operand)} {ps : List (Nat × AV)} {zv : Value} {C : List AV} {Y : AV} {d : Option Tmp} (hm : GOK m G) (hj : L.length = j) (ho : o.op = .build t parts) (hd : o.dst = d) (hn : dstLt n d = true) (hg : gdS ops σ o.guard = some true)
    {pl : List (Nat × Nat)} (hst : StOk P t zv pl) (hp : zv.cells[p]? = some (.slice none 0 0))
    (hx : EvP true σ parts.toList ps) (hs : (ps.all fun p => shaped p.2) = true) (hC : fillA (fun i => pl[i]?) ((zv.cells.toList.map cAV).set p (.own (m + j) 0)) ps = some C) (hY : optA o.guard true (.agg C) = Y)
    (hr : ARun P ops n QQ l (ks ++ [.new]) (putS σ d Y) (G ++ (L ++ [.row 0 e z []]))) : ARun P ops n QQ (o :: l) ks σ (G ++ L) := by
  refine ARun.new (E := [.row 0 e z []]) hd hn hg hY (fun H0 hl0 a W β hHr hl => ?_) (by rw [List.append_assoc]; exact hr)
  obtain ⟨fields, hu, hz, hinfo, hpl⟩ := hst
  change placesOf P fields.toList = pl at hpl
  subst hpl
  have hlen : β.length = m + j := by rw [hHr.len, hl0, List.length_append, hm.1, hj]
  have hsn := hHr.snoc (w' := W) (Below.refl _ _) (x := .row (.slice none 0 0) 0) (o := .row 0 e z []) ⟨rfl, [], World.ownsRow_nil W 0 e z, (fun x hx => by cases hx), (fun q u y h1 => by simp at h1)⟩ (fun b hb => by simp [Hd.blks, Value.ownBlock] at hb)
  have hown : VRep (β ++ [.row (.slice none 0 0) 0]) W (.slice none 0 0) (.own (m + j) 0) := by
    refine .own _ _ _ (by rw [List.length_append, hlen]; simp) (fun u g' hb => ?_)
    rw [List.getElem?_append_right (by omega), hlen, Nat.sub_self] at hb
    cases hb; exact ⟨Nat.le_refl _, fun _ => rfl⟩
  have hcr : CRep (β ++ [.row (.slice none 0 0) 0]) W zv.cells ((zv.cells.toList.map cAV).set p (.own (m + j) 0)) := by
    refine ⟨by simp, fun q u x h1 h2 => ?_⟩
    have hpl' : p < zv.cells.size := (Array.getElem?_eq_some_iff.1 hp).1
    by_cases e1 : p = q
    · subst e1
      rw [List.getElem?_set_self (by simpa using hpl')] at h2
      cases h2
      rw [hp] at h1; cases h1
      exact hown
    · rw [List.getElem?_set_ne e1, List.getElem?_map, Array.getElem?_toList, h1] at h2
      cases h2; exact cAV_rep _ _ _
  obtain ⟨vs', h1, h2⟩ := fill_rep (β := β ++ [.row (.slice none 0 0) 0]) (w := W) (a := a) (fun i => (placesOf P fields.toList)[i]?) parts.toList ps hx (fun x hx' X hX => (EvP.looks rfl hl (by simp [ho, Op.operands]) x hx' X hX).ext hsn.1) hs _ _ C hcr hC
  refine ⟨.agg vs', W, _, ?_, hsn.1, hsn.2, .agg _ _ h2.1 h2.2⟩
  have h3 := places_run (P := P) (w := W) fields.toList hinfo
  have h4 : (fields.mapM (m := Sem) fun f => do pure (f.offset, ← sizeOf f.type)).run P W = .ok (placesOf P fields.toList).toArray W := by
    rw [Array.mapM_eq_mapM_toList]
    have h3' : (List.mapM (m := Sem) (fun f : Field => Prod.mk f.offset <$> sizeOf f.type) fields.toList).run P W = .ok (placesOf P fields.toList) W := by simpa using h3
    simp [h3']
  have h4' : (Array.mapM (m := Sem) (fun f : Field => Prod.mk f.offset <$> sizeOf f.type) fields).run P W = .ok (placesOf P fields.toList).toArray W := by simpa using h4
  have h6 : (Instr.build t (parts.map fun (i, x) => (i, a.eval x))).run P W = .ok (.agg vs') W := by
    unfold Instr.build
    simp only [Sem.run_bind, hz.run, run_underlying hu]
    simp [h4', h1]
  simp only [execOp, ho]
  simp [h6]
end
/-- a slice of its own that lies in a variable, from now on only read -/
theorem AWP.frzIn {P : Program} {n m : Nat} {c : Code} {Q : QA} {σ : Sl} {G L : List AO} {j q p g : Nat} {e : TypeId} {z : Nat} {xs cs : List AV} {L' : List AO} (hm : GOK m G) (hj : L[j]? = some (.row g e z xs)) (hml : xs.length ≤ maxLen) (hq : L[q]? = some (.box cs)) (hp : cs[p]? = some (.own (m + j) g)) (hL : (L.set j .dead).set q (.box (cs.set p (.sl xs))) = L')
    (h : AWP P n m c Q σ G L') : AWP P n m c Q σ G L := by
  intro D a W β hmG hn hd hHr hs0
  have hjq : j ≠ q := by intro e; subst e; rw [hj] at hq; cases hq
  have hiH : (G ++ L)[m + j]? = some (.row g e z xs) := by rw [hm.at]; exact hj
  have hiq : (G ++ L)[m + q]? = some (.box cs) := by rw [hm.at]; exact hq
  obtain ⟨hlt, v, hβ⟩ : m + j < β.length ∧ ∃ v, β[m + j]? = some (.row v g) := by
    have hlt : m + j < β.length := by rw [hHr.len]; exact (List.getElem?_eq_some_iff.1 hiH).1
    refine ⟨hlt, ?_⟩
    have ho := hHr.ob _ _ _ hiH (List.getElem?_eq_getElem hlt)
    cases hb : β[m + j] with
    | box b => rw [hb] at ho; exact ho.elim
    | dead => rw [hb] at ho; exact ho.elim
    | guard b => rw [hb] at ho; exact ho.elim
    | bld b v => rw [hb] at ho; exact ho.elim
    | row v' g' => rw [hb] at ho; obtain ⟨rfl, _⟩ := ho; exact ⟨v', by rw [List.getElem?_eq_getElem hlt, hb]⟩
  have hdead := hHr.change hβ (x' := .dead) (o := .dead) trivial (fun _ e => by cases e) rfl rfl rfl (Nat.le_refl _) (fun _ _ _ => rfl) (fun b hb => by cases hb) (fun _ => trivial)
  obtain ⟨hext, hH1⟩ := hdead
  have hrow : ∀ u, VRep β W u (.own (m + j) g) → VRep (β.set (m + j) .dead) W u (.sl xs) := by
    intro u hu
    refine row_reads hHr hiH hu (fun b hb x hx e5 => ?_) (.inl hext)
    obtain ⟨us, k1, _⟩ := hu.own_at hHr hiH
    obtain ⟨k, hk, rfl⟩ := List.mem_iff_getElem.1 hx
    have hk2 : (β.set (m + j) .dead)[k]? = some ((β.set (m + j) .dead)[k]) := List.getElem?_eq_getElem hk
    by_cases e : m + j = k
    · subst e; rw [List.getElem_set_self] at e5; cases e5
    · rw [List.getElem?_set_ne e] at hk2
      exact hHr.ap _ _ _ _ b e k1 hk2 (opt_mem.2 hb) e5
  have hH2 : HRel (β.set (m + j) .dead) (G ++ L') W := by
    have e1 : G ++ L' = ((G ++ L).set (m + j) .dead).set (m + q) (.box (cs.set p (.sl xs))) := by rw [hm.set, hm.set, hL]
    rw [e1]
    refine ⟨hH1.gl, by rw [hH1.len]; simp, fun i o x h1 h2 => ?_, hH1.ap⟩
    by_cases e : m + q = i
    · subst e
      have hltq : m + q < ((G ++ L).set (m + j) .dead).length := by rw [List.length_set]; exact (List.getElem?_eq_some_iff.1 hiq).1
      rw [List.getElem?_set_self hltq] at h1
      cases h1
      have hold : ((G ++ L).set (m + j) .dead)[m + q]? = some (.box cs) := by rw [List.getElem?_set_ne (by omega)]; exact hiq
      have ho := hH1.ob _ _ _ hold h2
      have hrep : ∀ (arr : Array Value), arr.size = cs.length → (∀ (k : Nat) (u : Value) (y : AV), arr[k]? = some u → cs[k]? = some y → VRep β W u y) → ∀ (k : Nat) (u : Value) (y : AV), arr[k]? = some u → (cs.set p (.sl xs))[k]? = some y → VRep (β.set (m + j) .dead) W u y := by
        intro arr hsz hr k u y h3 h4
        by_cases e : p = k
        · subst e
          rw [List.getElem?_set_self (List.getElem?_eq_some_iff.1 hp).1] at h4
          cases h4
          exact hrow u (hr _ u _ h3 hp)
        · rw [List.getElem?_set_ne e] at h4
          exact (hr k u y h3 h4).ext hext
      have h2' : β[m + q]? = some x := by rw [List.getElem?_set_ne (by omega)] at h2; exact h2
      have ho0 := hHr.ob _ _ _ hiq h2'
      cases x with
      | box b =>
        obtain ⟨arr, T, k1, k2, k3, k4⟩ := ho0
        refine ⟨arr, T, k1, by simpa using k2, hrep arr k2 k3, ?_⟩
        rw [List.all_eq_true] at k4 ⊢
        intro y hy
        rcases List.mem_or_eq_of_mem_set hy with hy | rfl
        · exact k4 y hy
        · rfl
      | bld b v =>
        obtain ⟨arr, T, k1, k2, k3, e', s', q1, q2, q3⟩ := ho0
        refine ⟨arr, T, k1, by simpa using k2, hrep arr k2 k3, e', s', ?_, ?_, q3⟩
        · rw [List.getElem?_set_ne]; exact q1
          intro e; subst e; rw [hp] at q1; cases q1
        · rw [List.getElem?_set_ne]; exact q2
          intro e; subst e; rw [hp] at q2; cases q2
      | row v g => exact ho0.elim
      | dead => exact ho0.elim
      | guard bs => exact ho0.elim
    · rw [List.getElem?_set_ne e] at h1
      exact hH1.ob i o x h1 h2
  refine Code.wp_mono (fun e a' W' hp => hp.ext hext) (h D a W _ hmG hn hd hH2 fun t X ht => ?_)
  obtain ⟨u, k1, k2⟩ := hs0 t X ht
  exact ⟨u, k1, k2.ext hext⟩
end Go.Proofs.Ytopmppnnihdnaaa
