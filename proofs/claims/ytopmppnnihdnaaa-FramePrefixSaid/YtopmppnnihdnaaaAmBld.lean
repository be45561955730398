/- strings.Builder, or a struct that begins with one: its bytes grow, are told. -/
import Derived.Test.YtopmppnnihdnaaaAmObj
import Derived.Lib.Builder
import Derived.Lib.AppendStr
import Derived.Lib.UnsafeStr
import Derived.Deep.QuietTactic
import Derived.Deep.RegionWith
import Derived.Laws.Externs
namespace Go.Proofs.Ytopmppnnihdnaaa
set_option linter.unusedVariables false
set_option linter.unusedSimpArgs false
open Go.RowKit
set_option maxRecDepth 100000
section
variable {P : Program} {w : World}
/-- append of a text to bytes of one's own: where they lie -/
theorem run_append_str_at (t u ty e : TypeId) (i : TypeInfo) (ht : P.underlying t = some (.slice e)) (hu : P.underlying u = some .string) (hi : P.info? e = some i) (hz : i.zero = some (.int .u8 0))
    (hsize : i.size = 1) (hby : i.bytes = 1) (v : Value) (n : Nat) (xs : List Value) (hown : w.ownsRow 0 e 1 v n xs) (s : ByteArray) (h63 : n + s.size ≤ maxLen) (hbytes : n + s.size ≤ 140737488355328) :
    ∃ v' w', (Builtin.append_ #[t, u] ty #[v, .string s]).run P w = .ok v' w' ∧ w'.ownsRow 0 e 1 v' (n + s.size) (xs ++ Lib.strCells s) ∧ w.grownBy w' v.ownBlock ∧ (∀ b, v'.ownBlock = some b → v.ownBlock = some b ∨ w.heap.size ≤ b) ∧ (v = .slice none 0 0 → s.size = 0 → v' = .slice none 0 0) := by
  obtain ⟨v', w', hr, h2, h3, h4⟩ := Lib.run_append_own_string (P := P) w 0 t u ty e i ht hu hi hz hsize hby v n xs hown s h63 hbytes (Nat.zero_le _)
  have hsmall : n + s.size ≤ 9223372036854775807 := by simp only [maxLen] at h63; omega
  refine ⟨v', w', hr, h2, h3, fun b hb => ?_, fun a b => h4.2 ⟨a, b⟩⟩
  have hxl : xs.length = n := by simpa using hown.1
  rcases hown.2 with ⟨rfl, rfl⟩ | ⟨g, cap, cur, rfl, hbg, hg, hnc, hcm, hcs, htake⟩
  · obtain ⟨v2, w2, hr2, q2, _⟩ := Lib.run_append_own_string (P := P) w w.heap.size t u ty e i ht hu hi hz hsize hby (.slice none 0 0) 0 [] (World.ownsRow_nil _ _ _ _) s h63 hbytes (Nat.le_refl _)
    rw [hr] at hr2; cases hr2
    exact .inr (q2.lt b hb).1
  · by_cases hroom : n + s.size ≤ cap
    · have hcs' : cur.size = cap := by simpa using hcs
      have hr2 := Lib.run_append_room_string (P := P) w t u ty e i ht hu hi hsize g n cap cur hg s hroom (by omega)
      rw [hr] at hr2; cases hr2
      exact .inl hb
    · have holds : ∀ j u, xs[j]? = some u → w.cell? ((⟨g, 0, none⟩ : Addr).add j) = some u := hown.cells (g := g) rfl
      have hr2 := Lib.run_append_grow_string (P := P) w t u ty e i (.int .u8 0) ht hu hi hz ⟨g, 0, none⟩ n cap xs (by rw [hsize]; simpa using hxl) holds s (by omega) (by omega) (by rw [hby]; exact growslice_fits (by omega) (by omega))
      rw [hr] at hr2; cases hr2
      simp only [Value.ownBlock, Option.some.injEq] at hb
      exact .inr (by omega)
theorem wpList_append_str_at {ops : Array Oper} {rest : List Oper} {o : Oper} {a : Act} {Q : Exit → Act → World → Prop} (hgd : o.guard = none) (sl x : Operand) (t u : TypeId)
    (ho : o.op = .call { callee := .builtin .append, args := #[sl, x], argTypes := #[t, u] })
    (e : TypeId) (i : TypeInfo) (ht : P.underlying t = some (.slice e)) (hu : P.underlying u = some .string) (hi : P.info? e = some i) (hz : i.zero = some (.int .u8 0))
    (hsize : i.size = 1) (hby : i.bytes = 1)
    (v : Value) (n : Nat) (xs : List Value) (hs : a.eval sl = v) (hown : w.ownsRow 0 e 1 v n xs) (s : ByteArray) (hx : a.eval x = .string s)
    (h63 : n + s.size ≤ maxLen) (hbytes : n + s.size ≤ 140737488355328)
    (h : ∀ v' w', w'.ownsRow 0 e 1 v' (n + s.size) (xs ++ Lib.strCells s) → w.grownBy w' v.ownBlock → (∀ b, v'.ownBlock = some b → v.ownBlock = some b ∨ w.heap.size ≤ b) → (v = .slice none 0 0 → s.size = 0 → v' = .slice none 0 0) → wpList P ops Q rest (a.put o.dst v') w') : wpList P ops Q (o :: rest) a w := by
  refine wpList_plain hgd fun K hK => ?_
  obtain ⟨v', w', hr, h2, h3, h4, h5⟩ := run_append_str_at (P := P) (w := w) t u o.type e i ht hu hi hz hsize hby v n xs hown s h63 hbytes
  unfold Oper.wp execOp
  simp only [ho, resolve, invoke, builtin, Sem.run_bind, Sem.run_pure, Result.andThen_ok, List.map_toArray, List.map_cons, List.map_nil, hs, hx, hr]
  exact hK _ _ (h v' w' h2 h3 h4 h5)
end
theorem sizeBuilder : (Try.prog.info? 49).map (·.size) = some 2 := by kernel_rfl
theorem infoByte : (Try.prog.info? 5).map (fun i => (i.zero, i.size, i.bytes)) = some (some (.int .u8 0), 1, 1) := by kernel_rfl
set_option maxHeartbeats 1000000 in
theorem copyCheck_used (b : Nat) (w : World) (h0 : w.cell? ⟨b, 0, none⟩ = some (.pointer (some ⟨b, 0, none⟩))) :
    Calls Try.prog 34 #[.pointer (some ⟨b, 0, none⟩)] w fun e w' => e = .returned (.tuple #[]) ∧ w' = w := by
  obtain ⟨j, hj, _⟩ := Option.map_eq_some_iff.1 sizeBuilder
  go_enter Try.func34, Try.ntmps34
  go_wp2
  rw [Lib.run_neq_ptr_same w _ Try.underlying46 hj]
  go_wp2
  go_end0
  exact ⟨rfl, rfl⟩
set_option maxHeartbeats 1000000 in
theorem copyCheck_fresh {T n : Nat} (hl : liesAt Try.prog Try.prog.depth T (n / Try.prog.cellsOf T) 0 49 1 = true) (hn : 0 < n) (b : Nat) (w : World) (h0 : w.cell? ⟨b, 0, none⟩ = some (.pointer none)) (hsh : w.shape? b = some (T, n)) (hfz : w.frozen? ⟨b, 0, none⟩ = false) :
    Calls Try.prog 34 #[.pointer (some ⟨b, 0, none⟩)] w fun e w' => e = .returned (.tuple #[]) ∧ w' = w.setCell ⟨b, 0, none⟩ (.pointer (some ⟨b, 0, none⟩)) := by
  obtain ⟨j, hj, hjs⟩ := Option.map_eq_some_iff.1 sizeBuilder
  go_enter Try.func34, Try.ntmps34
  go_wp2
  rw [Lib.run_to_unsafe w ⟨b, 0, none⟩ Try.underlying46 Try.underlying73 hj (by rw [hjs]; decide) hsh hn]
  simp only [Result.andThen]
  rw [Oper.upon_value]
  go_wp2
  rw [run_callFunc_extern Try.func40 (by kernel_rfl) (by kernel_rfl) (by kernel_rfl) (e := Extern.AbiNoEscape.same) (by kernel_rfl)]
  rw [Lib.run_noEscape]
  simp only [Result.andThen]
  rw [Oper.upon_value]
  go_wp2
  rw [Lib.run_from_unsafe w ⟨b, 0, none⟩ Try.underlying73 Try.underlying46 hj hsh hl]
  simp only [Result.andThen]
  rw [Oper.upon_value]
  go_wp2
  go_end0
  exact ⟨rfl, rfl⟩
/-- a builder in its block, at the block's beginning -/
structure BdW (w : World) (T b : Nat) (arr : Array Value) (v : Value) (s : ByteArray) : Prop where
  heap : w.heap[b]? = some (.cells arr T (0, 0))
  buf : arr[1]? = some v
  adr : arr[0]? = some (.pointer none) ∨ arr[0]? = some (.pointer (some ⟨b, 0, none⟩))
  own : w.ownsRow 0 5 1 v s.size (Lib.strCells s)
  ne : v.ownBlock ≠ some b
  emp : s.size = 0 → v = .slice none 0 0
theorem owns_setCell {w : World} {e : TypeId} {v x : Value} {n b off : Nat} {xs : List Value} (h : w.ownsRow 0 e 1 v n xs) (hne : v.ownBlock ≠ some b) : (w.setCell ⟨b, off, none⟩ x).ownsRow 0 e 1 v n xs :=
  h.kept (row := some b) ⟨rfl, rfl, rfl, by simp [World.setCell], fun k _ hk => Below.heap_setCell _ _ _ _ (fun e => hk (by simp [e]))⟩ (Or.inr hne)
theorem setCell_heap {w : World} {b off : Nat} {arr : Array Value} {T : TypeId} {x : Value} (hb : w.heap[b]? = some (.cells arr T (0, 0))) : (w.setCell ⟨b, off, none⟩ x).heap[b]? = some (.cells (arr.setIfInBounds off x) T (0, 0)) := by
  simp [World.setCell, Array.getElem?_modify, hb]
theorem setCell_other {w : World} {b off k : Nat} {x : Value} (hk : k ≠ b) : (w.setCell ⟨b, off, none⟩ x).heap[k]? = w.heap[k]? :=
  Below.heap_setCell _ _ _ _ (fun e => hk (by simpa using e))
theorem copyCheck_any {T n b : Nat} {arr : Array Value} {v : Value} {s : ByteArray} {w : World} (hl : liesAt Try.prog Try.prog.depth T (n / Try.prog.cellsOf T) 0 49 1 = true) (hn : arr.size = n) (h : BdW w T b arr v s) :
    Calls Try.prog 34 #[.pointer (some ⟨b, 0, none⟩)] w fun e w' => e = .returned (.tuple #[]) ∧ ∃ arr', BdW w' T b arr' v s ∧ arr'.size = n ∧ (∀ q, 1 < q → arr'[q]? = arr[q]?) ∧ w'.os = w.os ∧ w'.tape = w.tape ∧ w'.output = w.output ∧ w'.heap.size = w.heap.size ∧ ∀ k, k ≠ b → w'.heap[k]? = w.heap[k]? := by
  have hlt : 0 < arr.size := by rcases h.adr with h | h <;> exact (Array.getElem?_eq_some_iff.1 h).1
  rcases h.adr with h0 | h0
  · refine (copyCheck_fresh hl (by omega) b w (by rw [Lib.cell_of_heap h.heap]; exact h0) (by simp [World.shape?, h.heap, hn]) (Lib.frozen_of_heap h.heap 0)).mono ?_
    rintro e w' ⟨rfl, rfl⟩
    refine ⟨rfl, arr.setIfInBounds 0 (.pointer (some ⟨b, 0, none⟩)), ⟨setCell_heap h.heap, ?_, .inr (by simp [hlt]), owns_setCell h.own h.ne, h.ne, h.emp⟩, by simpa using hn, fun q hq => ?_, rfl, rfl, rfl, by simp [World.setCell], fun k hk => setCell_other hk⟩
    · rw [Array.getElem?_setIfInBounds_ne (by omega)]; exact h.buf
    · rw [Array.getElem?_setIfInBounds_ne (by omega)]
  · refine (copyCheck_used b w (by rw [Lib.cell_of_heap h.heap]; exact h0)).mono ?_
    rintro e w' ⟨rfl, rfl⟩
    exact ⟨rfl, arr, h, hn, fun _ _ => rfl, rfl, rfl, rfl, rfl, fun _ _ => rfl⟩
set_option maxHeartbeats 2000000 in
theorem writeString_any {T n b : Nat} {arr : Array Value} {v : Value} {s : ByteArray} {w : World} (hl : liesAt Try.prog Try.prog.depth T (n / Try.prog.cellsOf T) 0 49 1 = true) (hn : arr.size = n) (hTe : T ≠ 5) (h : BdW w T b arr v s) (t : ByteArray) (hlen : s.size + t.size ≤ 140737488355328) :
    Calls Try.prog 22 #[.pointer (some ⟨b, 0, none⟩), .string t] w fun e w' => e = .returned (.tuple #[.int .i64 t.size, .nilIface]) ∧
      ∃ arr' v', BdW w' T b arr' v' (s ++ t) ∧ arr'.size = n ∧ (∀ q, 1 < q → arr'[q]? = arr[q]?) ∧ w'.os = w.os ∧ w'.tape = w.tape ∧ w'.output = w.output ∧ w.heap.size ≤ w'.heap.size ∧ (∀ k, k < w.heap.size → k ≠ b → v.ownBlock ≠ some k → w'.heap[k]? = w.heap[k]?) ∧ ∀ k, v'.ownBlock = some k → v.ownBlock = some k ∨ w.heap.size ≤ k := by
  obtain ⟨i0, hi, hz0, hz1, hz2⟩ := info_parts infoByte
  go_enter Try.func22, Try.ntmps22
  go_wp2_with (go_at_call 34; refine (copyCheck_any hl hn h).mono ?_)
  rintro e w1 ⟨rfl, arr1, h1, hn1, hq1, ho1, ht1, hu1, hs1, hk1⟩
  have c1 : w1.cell? ⟨b, 1, none⟩ = some v := by rw [Lib.cell_of_heap h1.heap]; exact h1.buf
  go_wp2_with (at_builtin; refine wpList_append_str_at rfl _ _ 47 9 rfl 5 i0 Try.underlying47 Try.underlying9 hi hz0 hz1 hz2 _ _ _ rfl h1.own t rfl ?c3 ?c4 ?_)
  case c3 => unfold maxLen; omega
  case c4 => omega
  intro v' w2 hown' hgrow hblk hemp
  have hlt : b < w1.heap.size := (Array.getElem?_eq_some_iff.1 h1.heap).1
  have hb2 : w2.heap[b]? = some (.cells arr1 T (0, 0)) := by
    rw [hgrow.block b hlt (fun e => h1.ne e.symm)]
    exact h1.heap
  have d1 : w2.cell? ⟨b, 1, none⟩ = some v := by rw [Lib.cell_of_heap hb2]; exact h1.buf
  have f1 : w2.frozen? ⟨b, 1, none⟩ = false := Lib.frozen_of_heap hb2 1
  obtain ⟨ao, n', cap, rfl⟩ : ∃ ao n' cap, v' = .slice ao n' cap := by
    rcases hown'.2 with ⟨hv, _⟩ | ⟨g, cap, cur, hv, _⟩
    · exact ⟨_, _, _, hv⟩
    · exact ⟨_, _, _, hv⟩
  go_wp2
  go_ret2
  have hsz : 1 < arr1.size := (Array.getElem?_eq_some_iff.1 h1.buf).1
  have hne := Lib.ownBlock_ne hown' hb2 hTe
  refine ⟨rfl, arr1.setIfInBounds 1 (.slice ao n' cap), .slice ao n' cap, ⟨setCell_heap hb2, by simp [hsz], ?_, ?_, hne, ?_⟩, by simpa using hn1, fun q hq => ?_, ?_, ?_, ?_, ?_, fun k hk hkb hkv => ?_, fun k hk => ?_⟩
  · rw [Array.getElem?_setIfInBounds_ne (by omega)]; exact h1.adr
  · have e1 : (s ++ t).size = s.size + t.size := ByteArray.size_append
    have e2 : Lib.strCells (s ++ t) = Lib.strCells s ++ Lib.strCells t := by simp [Lib.strCells]
    rw [e1, e2]
    exact owns_setCell hown' hne
  · intro h0
    rw [ByteArray.size_append] at h0
    have q1 : s.size = 0 := by omega
    have q2 : t.size = 0 := by omega
    exact hemp (h.emp q1) (by first | exact q2 | simpa using q2)
  · rw [Array.getElem?_setIfInBounds_ne (by omega)]; exact hq1 q hq
  · exact hgrow.os.trans ho1
  · exact hgrow.tape.trans ht1
  · exact hgrow.output.trans hu1
  · have := hgrow.size; simp [World.setCell]; omega
  · rw [setCell_other hkb, hgrow.block k (by omega) (fun e => hkv e.symm), hk1 k hkb]
  · rcases hblk k hk with h | h
    · exact .inl h
    · exact .inr (by omega)
/-- the bytes grow -/
theorem bld_write {T n : Nat} (hl : liesAt Try.prog Try.prog.depth T (n / Try.prog.cellsOf T) 0 49 1 = true) (hTe : T ≠ 5) (s t : ByteArray) (rest : List AV) (hn : rest.length + 2 = n) (hlen : s.size + t.size ≤ 140737488355328) :
    FnM Try.prog 22 (fun i => [.box i 0, .str t]) (.adr T :: .buf 5 s :: rest) (.tup [.int .i64 t.size, .raw .nilIface]) (.adr T :: .buf 5 (s ++ t) :: rest) := by
  intro H i hi w β vs hH hv
  obtain ⟨a1, a2, rfl, hb0, ht0⟩ := hv.two
  obtain rfl := ht0.str_inv
  obtain ⟨b, arr, T', hat, rfl, hhp, hsz, hrep⟩ := hb0.box_at hH hi
  rcases hat with hat | ⟨v, hat, e', s', k1, k2, k3, k4, k5, k6, k7⟩
  · have := hH.ob i _ _ hi hat
    obtain ⟨_, _, _, _, _, q⟩ := this
    simp [AV.plainC] at q
  simp at k1 k2
  obtain ⟨rfl⟩ := k1
  obtain ⟨rfl, rfl⟩ := k2
  have hszn : arr.size = n := by rw [hsz]; simpa using hn
  refine (writeString_any hl hszn hTe ⟨hhp, k3, k4, k5, k6, k7⟩ t hlen).mono ?_
  rintro e w' ⟨rfl, arr', v', hB, hn', hq, ho, htp, hu, hs, hk, hblk⟩
  have hch := hH.change hat (x' := .bld b v') (o := .box (.adr T :: .buf 5 (s ++ t) :: rest)) rfl (fun _ e => by cases e) ho htp hu hs
    (fun k h1 h2 => hk k h1 (fun e => h2 (by rw [e]; exact List.mem_cons_self)) (fun e => h2 (List.mem_cons_of_mem _ (opt_mem.2 e))))
    (fun k hm => by
      rcases List.mem_cons.1 hm with rfl | hm
      · exact .inl List.mem_cons_self
      · rcases hblk k (opt_mem.1 hm) with h | h
        · exact .inl (List.mem_cons_of_mem _ (opt_mem.2 h))
        · exact .inr h)
    (fun hx => ⟨arr', T, hB.heap, by rw [hn', ← hn]; simp, fun j u y hj hy => by
      match j with
      | 0 => simp at hy; subst hy; exact .adr _ _
      | 1 => simp at hy; subst hy; exact .buf _ _ _
      | j + 2 =>
        rw [hq _ (by omega)] at hj
        exact (hrep (j + 2) u y hj (by simpa using hy)).ext hx,
      _, _, rfl, rfl, hB.buf, hB.adr, hB.own, hB.ne, hB.emp⟩)
  exact ⟨_, _, rfl, hch.1, hch.2, VRep.tup2 (.int _ _) (.raw _)⟩
/-! ### the bytes are told -/
theorem cellsByte : Try.prog.cellsOf 5 = 1 := by kernel_rfl
theorem bytes_strCells (s : ByteArray) : Lib.strCells s = Lib.byteCells s.data.toList := rfl
theorem freeze_only (w : World) (g n c : Nat) : (w.drew.freeze ⟨g, 0, none⟩ n).os = w.os ∧ (w.drew.freeze ⟨g, 0, none⟩ n).tape = w.tape ∧ (w.drew.freeze ⟨g, 0, none⟩ n).output = w.output ∧ w.heap.size ≤ (w.drew.freeze ⟨g, 0, none⟩ n).heap.size ∧
    ∀ k, (Value.slice (some ⟨g, 0, none⟩) n c).ownBlock ≠ some k → (w.drew.freeze ⟨g, 0, none⟩ n).heap[k]? = w.heap[k]? := by
  unfold World.freeze
  split
  · exact ⟨rfl, rfl, rfl, Nat.le_refl _, fun _ _ => rfl⟩
  · refine ⟨rfl, rfl, rfl, by simp, fun k hk => ?_⟩
    simp only [Value.ownBlock] at hk
    simp only [Array.getElem?_modify]
    rw [if_neg (fun e => hk (by rw [e]))]
    rfl
set_option maxHeartbeats 2000000 in
theorem string_some {T b : Nat} {arr : Array Value} {v : Value} {s : ByteArray} {w : World} (h : BdW w T b arr v s) (h0 : s.size ≠ 0) :
    Calls Try.prog 23 #[.pointer (some ⟨b, 0, none⟩)] w fun e w' => e = .returned (.string s) ∧ w'.os = w.os ∧ w'.tape = w.tape ∧ w'.output = w.output ∧ w.heap.size ≤ w'.heap.size ∧ ∀ k, v.ownBlock ≠ some k → w'.heap[k]? = w.heap[k]? := by
  obtain ⟨hhp, hbuf, _, hown, hne, _⟩ := h
  obtain ⟨g, cap, cur, rfl, hbg, hg, hnc, hcm, hcs, htake⟩ : ∃ g cap cur, v = .slice (some ⟨g, 0, none⟩) s.size cap ∧ 0 ≤ g ∧ w.heap[g]? = some (.cells cur 5 (0, 0)) ∧ s.size ≤ cap ∧ cap ≤ maxLen ∧ cur.size = cap * 1 ∧ cur.toList.take (s.size * 1) = Lib.strCells s := by
    rcases hown.2 with ⟨_, hz⟩ | ⟨g, cap, cur, hv, r⟩
    · exact absurd hz h0
    · exact ⟨g, cap, cur, hv, r⟩
  have c1 : w.drew.cell? ⟨b, 1, none⟩ = some (.slice (some ⟨g, 0, none⟩) s.size cap) := by
    have : w.drew.heap[b]? = some (.cells arr T (0, 0)) := hhp
    rw [Lib.cell_of_heap this]; exact hbuf
  have hls : (s.data.toList).length = s.size := Array.length_toList
  have hSD : (Builtin.unsafeSliceData_ #[47] 67 #[.slice (some ⟨g, 0, none⟩) s.size cap]).run Try.prog w.drew = .ok (.pointer (some ⟨g, 0, none⟩)) w.drew :=
    Lib.run_unsafeSliceData_row _ _ _ _ _ _ (by omega)
  have hUS : (Builtin.unsafeString_ #[67, 3] 9 #[.pointer (some ⟨g, 0, none⟩), .int .i64 s.size]).run Try.prog w.drew = .ok (.string s) (w.drew.freeze ⟨g, 0, none⟩ s.size) := by
    have := Lib.run_unsafeString_row (P := Try.prog) w.drew 67 3 9 5 Try.underlying67 cellsByte g cur.size (by have hg' : w.drew.heap[g]? = some (.cells cur 5 (0, 0)) := hg; simp [World.shape?, hg']) s.data.toList (by intro e; rw [e] at hls; simp at hls; omega) (by omega) (by unfold maxLen at hcm; omega) (by
      intro j x hx
      have := hown.cells (g := g) rfl j (.int .u8 x.toNat) (by simp [Lib.strCells]; exact ⟨x, by simpa using hx, rfl⟩)
      exact this)
    rw [hls] at this
    exact this
  have hgl : g < w.heap.size := (Array.getElem?_eq_some_iff.1 hg).1
  go_enter Try.func23, Try.ntmps23
  go_wp2
  go_region
  all_goals (go_wp2; go_ret; refine ⟨rfl, ?_⟩; exact freeze_only w g _ _)
set_option maxHeartbeats 2000000 in
theorem string_none {T b : Nat} {arr : Array Value} {s : ByteArray} {w : World} (hhp : w.heap[b]? = some (.cells arr T (0, 0))) (hbuf : arr[1]? = some (.slice none 0 0)) :
    Calls Try.prog 23 #[.pointer (some ⟨b, 0, none⟩)] w fun e w' => e = .returned (.string ⟨#[]⟩) ∧ w' = w.drew := by
  have hUS : ∀ W, (Builtin.unsafeString_ #[67, 3] 9 #[.pointer none, .int .i64 0]).run Try.prog W = .ok (.string .empty) W := fun W => Lib.run_unsafeString_none W _ _ _ none
  have c1 : w.drew.cell? ⟨b, 1, none⟩ = some (.slice none 0 0) := by
    have : w.drew.heap[b]? = some (.cells arr T (0, 0)) := hhp
    rw [Lib.cell_of_heap this]; exact hbuf
  have hSD : (Builtin.unsafeSliceData_ #[47] 67 #[.slice none 0 0]).run Try.prog w.drew = .ok (.pointer none) w.drew := rfl
  go_enter Try.func23, Try.ntmps23
  go_wp2
  go_region
  all_goals (go_wp2; go_ret; exact ⟨rfl, rfl⟩)
theorem drew_only (w : World) {v : Value} : w.drew.os = w.os ∧ w.drew.tape = w.tape ∧ w.drew.output = w.output ∧ w.heap.size ≤ w.drew.heap.size ∧ ∀ k, v.ownBlock ≠ some k → w.drew.heap[k]? = w.heap[k]? := ⟨rfl, rfl, rfl, Nat.le_refl _, fun _ _ => rfl⟩
theorem string_any {T b : Nat} {arr : Array Value} {v : Value} {s : ByteArray} {w : World} (h : BdW w T b arr v s) :
    Calls Try.prog 23 #[.pointer (some ⟨b, 0, none⟩)] w fun e w' => e = .returned (.string s) ∧ w'.os = w.os ∧ w'.tape = w.tape ∧ w'.output = w.output ∧ w.heap.size ≤ w'.heap.size ∧ ∀ k, v.ownBlock ≠ some k → w'.heap[k]? = w.heap[k]? := by
  by_cases h0 : s.size = 0
  · have hv := h.emp h0
    subst hv
    refine (string_none (s := s) h.heap h.buf).mono ?_
    rintro e w' ⟨rfl, rfl⟩
    have hs : s = ⟨#[]⟩ := ByteArray.size_eq_zero_iff.1 h0
    exact ⟨by rw [hs], drew_only w⟩
  · exact string_some h h0
/-- a thing, told or changed, that is no more behind it -/
def FnK (P : Program) (F : FuncId) (args : Nat → List AV) (cs : List AV) (r : AV) : Prop :=
  ∀ (H : List AO) (i : Nat), H[i]? = some (.box cs) → FnH P F (args i) H r (H.set i .dead)
theorem FnK.of {P : Program} {f : FuncId} {fn : Func} {c : Code} {args : Nat → List AV} {cs : List AV} {r : AV} {n : Nat} (hf : P.funcs[f]? = some fn) (hb : fn.body = some c) (hn : fn.ntmps = n) (hna : ∀ i, (args i).length ≤ n)
    (h : ∀ (H : List AO) (i m : Nat), H.length = m → i < H.length → GOK m (H.set i (.box cs)) → AWP P n m c (endF P fn r (H.set i .dead)) (zipS (args i) 0) (H.set i (.box cs)) []) : FnK P f args cs r := by
  intro H i hi
  have hlt := (List.getElem?_eq_some_iff.1 hi).1
  have e : H.set i (.box cs) = H := set_of_get hi
  refine FnH.of0 hf hb hn (hna i) fun hG => ?_
  have := h H i H.length rfl hlt (by rw [e]; exact hG)
  rw [e] at this; exact this
/-- .. or one lets it go -/
theorem FnM.kill {P : Program} {F : FuncId} {args : Nat → List AV} {cs cs' : List AV} {r : AV} (h : FnM P F args cs r cs') (hr : NoH 0 r) : FnK P F args cs r := by
  intro H i hi w β vs hH hv
  refine (h H i hi w β vs hH hv).mono ?_
  rintro e w' ⟨v, β', rfl, k1, k2, k3⟩
  have hlt : i < H.length := (List.getElem?_eq_some_iff.1 hi).1
  have hb' : i < β'.length := by rw [k2.len, List.length_set]; exact hlt
  have hx : β'[i]? = some β'[i] := List.getElem?_eq_getElem hb'
  have ho := k2.ob i (.box cs') _ (List.getElem?_set_self hlt) hx
  have hto : β'[i].to .dead ∧ ∀ bs, β'[i] ≠ .guard bs := by
    cases hy : β'[i] with
    | box b => exact ⟨trivial, fun _ e => by cases e⟩
    | bld b v => exact ⟨trivial, fun _ e => by cases e⟩
    | row v g => rw [hy] at ho; exact ho.elim
    | dead => rw [hy] at ho; exact ho.elim
    | guard bs => rw [hy] at ho; exact ho.elim
  have hc := k2.change hx (x' := .dead) (o := .dead) hto.1 hto.2 rfl rfl rfl (Nat.le_refl _) (fun _ _ _ => rfl) (fun b hb => by cases hb) (fun _ => trivial)
  rw [List.set_set] at hc
  exact ⟨v, _, rfl, k1.trans hc.1, hc.2, k3.ext hc.1⟩
theorem bld_string {T n : Nat} (s : ByteArray) (rest : List AV) : FnK Try.prog 23 (fun i => [.box i 0]) (.adr T :: .buf 5 s :: rest) (.str s) := by
  intro H i hi w β vs hH hv
  obtain ⟨a1, rfl, hb0⟩ := hv.single
  obtain ⟨b, arr, T', hat, rfl, hhp, hsz, hrep⟩ := hb0.box_at hH hi
  rcases hat with hat | ⟨v, hat, e', s', k1, k2, k3, k4, k5, k6, k7⟩
  · have := hH.ob i _ _ hi hat
    obtain ⟨_, _, _, _, _, q⟩ := this
    simp [AV.plainC] at q
  simp at k1 k2
  obtain ⟨rfl⟩ := k1
  obtain ⟨rfl, rfl⟩ := k2
  refine (string_any ⟨hhp, k3, k4, k5, k6, k7⟩).mono ?_
  rintro e w' ⟨rfl, ho, htp, hu, hs, hk⟩
  have hch := hH.change hat (x' := .dead) (o := .dead) trivial (fun _ e => by cases e) ho htp hu hs
    (fun k h1 h2 => hk k (fun e => h2 (List.mem_cons_of_mem _ (opt_mem.2 e)))) (fun k hm => by cases hm) (fun _ => trivial)
  exact ⟨_, _, rfl, hch.1, hch.2, .str _⟩
section
variable {P : Program} {ops : Array Oper} {n m : Nat} {QQ : List Kd → Sl → List AO → Prop} {l : List Oper} {ks : List Kd} {σ : Sl} {G L H : List AO} {o : Oper} {gd : Bool}
theorem GOK.setDead {m : Nat} {H : List AO} {i : Nat} {X : AO} (h : GOK m (H.set i X)) : GOK m (H.set i .dead) := h.setO (fun x hx => by cases hx)
/-- a thing that was handed in is told, and is no more -/
theorem ARun.callK {H0 : List AO} {f : Operand} {args : Array Operand} {ats : Array TypeId} {F i : Nat} {fs cs xs ax cA : List AV} {r Y : AV} {d : Option Tmp} (hi : i < H0.length) (hm : GOK m (H0.set i (.box cA))) (ho : o.op = .call { callee := .value f, args := args, argTypes := ats }) (hd : o.dst = d) (hn : dstLt n d = true) (hG : gdS ops σ o.guard = some true)
    (hcf : ∀ (va : Array Value) (W : World), (callFunc F va).run P W = .ok (.enter F va) W)
    (hf : Ev true σ f (.fn (.func F) fs cs)) (hx : EvL true σ args.toList xs) (has : fs ++ xs ++ cs = ax) (hF : FnH P F ax (H0.set i (.box cA) ++ L) r ((H0.set i (.box cA) ++ L).set i .dead)) (hY : optA o.guard true r = Y)
    (hr : GOK m (H0.set i .dead) → ARun P ops n QQ l (ks ++ [.write]) (putS σ d Y) (H0.set i .dead ++ L)) : ARun P ops n QQ (o :: l) ks σ (H0.set i (.box cA) ++ L) :=
  ARun.callH ho hd hn hG hcf hf hx has hF hY (by rw [_root_.Go.Proofs.Ytopmppnnihdnaaa.setO hi]; exact hr hm.setDead)
end
end Go.Proofs.Ytopmppnnihdnaaa
