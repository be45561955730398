/- strings.Builder, or a struct that begins with one: its bytes grow, are told. -/
import Derived.Test.YthogpkmidffdeaaDoorAmObj
import Derived.Lib.Builder
import Derived.Lib.AppendStr
import Derived.Lib.UnsafeStr
import Derived.Deep.QuietTactic
import Derived.Deep.RegionWith
import Derived.Laws.Externs
namespace Go.Proofs.YthogpkmidffdeaaDoor
set_option linter.unusedVariables false
set_option linter.unusedSimpArgs false
open Go.RowKit
set_option maxRecDepth 100000
section
variable {P : Program} {w : World}
/-- append of a text to bytes of one's own: where they lie -/
theorem run_append_str_at (t u ty e : TypeId) (i : TypeInfo) (ht : P.underlying t = some (.slice e)) (hu : P.underlying u = some .string) (hi : P.info? e = some i) (hz : i.zero = some (.int .u8 0))
    (hsize : i.size = 1) (hby : i.bytes = 1) (v : Value) (n : Nat) (xs : List Value) (hown : w.ownsRow 0 e 1 v n xs) (s : ByteArray) (h63 : n + s.size ≤ maxLen) (hbytes : n + s.size ≤ 140737488355328) :
    ∃ v' w', (Builtin.append_ #[t, u] ty #[v, .string s]).run P w = .ok v' w' ∧ w'.ownsRow 0 e 1 v' (n + s.size) (xs ++ Lib.strCells s) ∧ w.grownBy w' v.ownBlock ∧ (∀ b, v'.ownBlock = some b → v.ownBlock = some b ∨ w.heap.size ≤ b) ∧ (v = .slice none 0 0 → s.size = 0 → v' = .slice none 0 0) := by
  obtain ⟨v', w', hr, h2, h3, h4⟩ := Lib.run_append_own_string (P := P) w 0 t u ty e i ht hu hi hz hsize hby v n xs hown s h63 hbytes (Nat.zero_le _)
  have hsmall : n + s.size ≤ 9223372036854775807 := by simp only [maxLen] at h63; omega
  refine ⟨v', w', hr, h2, h3, fun b hb => ?_, fun a b => h4.2 ⟨a, b⟩⟩
  have hxl : xs.length = n := by simpa using hown.1
  rcases hown.2 with ⟨rfl, rfl⟩ | ⟨g, cap, cur, rfl, hbg, hg, hnc, hcm, hcs, htake⟩
  · obtain ⟨v2, w2, hr2, q2, _⟩ := Lib.run_append_own_string (P := P) w w.heap.size t u ty e i ht hu hi hz hsize hby (.slice none 0 0) 0 [] (World.ownsRow_nil _ _ _ _) s h63 hbytes (Nat.le_refl _)
    rw [hr] at hr2; cases hr2
    exact .inr (q2.lt b hb).1
  · by_cases hroom : n + s.size ≤ cap
    · have hcs' : cur.size = cap := by simpa using hcs
      have hr2 := Lib.run_append_room_string (P := P) w t u ty e i ht hu hi hsize g n cap cur hg s hroom (by omega)
      rw [hr] at hr2; cases hr2
      exact .inl hb
    · have holds : ∀ j u, xs[j]? = some u → w.cell? ((⟨g, 0, none⟩ : Addr).add j) = some u := hown.cells (g := g) rfl
      have hr2 := Lib.run_append_grow_string (P := P) w t u ty e i (.int .u8 0) ht hu hi hz ⟨g, 0, none⟩ n cap xs (by rw [hsize]; simpa using hxl) holds s (by omega) (by omega) (by rw [hby]; exact growslice_fits (by omega) (by omega))
      rw [hr] at hr2; cases hr2
      simp only [Value.ownBlock, Option.some.injEq] at hb
      exact .inr (by omega)
theorem wpList_append_str_at {ops : Array Oper} {rest : List Oper} {o : Oper} {a : Act} {Q : Exit → Act → World → Prop} (hgd : o.guard = none) (sl x : Operand) (t u : TypeId)
    (ho : o.op = .call { callee := .builtin .append, args := #[sl, x], argTypes := #[t, u] })
    (e : TypeId) (i : TypeInfo) (ht : P.underlying t = some (.slice e)) (hu : P.underlying u = some .string) (hi : P.info? e = some i) (hz : i.zero = some (.int .u8 0))
    (hsize : i.size = 1) (hby : i.bytes = 1)
    (v : Value) (n : Nat) (xs : List Value) (hs : a.eval sl = v) (hown : w.ownsRow 0 e 1 v n xs) (s : ByteArray) (hx : a.eval x = .string s)
    (h63 : n + s.size ≤ maxLen) (hbytes : n + s.size ≤ 140737488355328)
    (h : ∀ v' w', w'.ownsRow 0 e 1 v' (n + s.size) (xs ++ Lib.strCells s) → w.grownBy w' v.ownBlock → (∀ b, v'.ownBlock = some b → v.ownBlock = some b ∨ w.heap.size ≤ b) → (v = .slice none 0 0 → s.size = 0 → v' = .slice none 0 0) → wpList P ops Q rest (a.put o.dst v') w') : wpList P ops Q (o :: rest) a w := by
  refine wpList_plain hgd fun K hK => ?_
  obtain ⟨v', w', hr, h2, h3, h4, h5⟩ := run_append_str_at (P := P) (w := w) t u o.type e i ht hu hi hz hsize hby v n xs hown s h63 hbytes
  unfold Oper.wp execOp
  simp only [ho, resolve, invoke, builtin, Sem.run_bind, Sem.run_pure, Result.andThen_ok, List.map_toArray, List.map_cons, List.map_nil, hs, hx, hr]
  exact hK _ _ (h v' w' h2 h3 h4 h5)
end
theorem infoByte : (Tryd.prog.info? 5).map (fun i => (i.zero, i.size, i.bytes)) = some (some (.int .u8 0), 1, 1) := by kernel_rfl
/-- a builder in its block, at the block's beginning -/
structure BdW (w : World) (T b : Nat) (arr : Array Value) (v : Value) (s : ByteArray) : Prop where
  heap : w.heap[b]? = some (.cells arr T (0, 0))
  buf : arr[1]? = some v
  adr : arr[0]? = some (.pointer none) ∨ arr[0]? = some (.pointer (some ⟨b, 0, none⟩))
  own : w.ownsRow 0 5 1 v s.size (Lib.strCells s)
  ne : v.ownBlock ≠ some b
  emp : s.size = 0 → v = .slice none 0 0
theorem owns_setCell {w : World} {e : TypeId} {v x : Value} {n b off : Nat} {xs : List Value} (h : w.ownsRow 0 e 1 v n xs) (hne : v.ownBlock ≠ some b) : (w.setCell ⟨b, off, none⟩ x).ownsRow 0 e 1 v n xs :=
  h.kept (row := some b) ⟨rfl, rfl, rfl, by simp [World.setCell], fun k _ hk => Below.heap_setCell _ _ _ _ (fun e => hk (by simp [e]))⟩ (Or.inr hne)
theorem setCell_heap {w : World} {b off : Nat} {arr : Array Value} {T : TypeId} {x : Value} (hb : w.heap[b]? = some (.cells arr T (0, 0))) : (w.setCell ⟨b, off, none⟩ x).heap[b]? = some (.cells (arr.setIfInBounds off x) T (0, 0)) := by
  simp [World.setCell, Array.getElem?_modify, hb]
theorem setCell_other {w : World} {b off k : Nat} {x : Value} (hk : k ≠ b) : (w.setCell ⟨b, off, none⟩ x).heap[k]? = w.heap[k]? :=
  Below.heap_setCell _ _ _ _ (fun e => hk (by simpa using e))
/-! ### the bytes are told -/
theorem cellsByte : Tryd.prog.cellsOf 5 = 1 := by kernel_rfl
theorem bytes_strCells (s : ByteArray) : Lib.strCells s = Lib.byteCells s.data.toList := rfl
theorem freeze_only (w : World) (g n c : Nat) : (w.drew.freeze ⟨g, 0, none⟩ n).os = w.os ∧ (w.drew.freeze ⟨g, 0, none⟩ n).tape = w.tape ∧ (w.drew.freeze ⟨g, 0, none⟩ n).output = w.output ∧ w.heap.size ≤ (w.drew.freeze ⟨g, 0, none⟩ n).heap.size ∧
    ∀ k, (Value.slice (some ⟨g, 0, none⟩) n c).ownBlock ≠ some k → (w.drew.freeze ⟨g, 0, none⟩ n).heap[k]? = w.heap[k]? := by
  unfold World.freeze
  split
  · exact ⟨rfl, rfl, rfl, Nat.le_refl _, fun _ _ => rfl⟩
  · refine ⟨rfl, rfl, rfl, by simp, fun k hk => ?_⟩
    simp only [Value.ownBlock] at hk
    simp only [Array.getElem?_modify]
    rw [if_neg (fun e => hk (by rw [e]))]
    rfl
theorem drew_only (w : World) {v : Value} : w.drew.os = w.os ∧ w.drew.tape = w.tape ∧ w.drew.output = w.output ∧ w.heap.size ≤ w.drew.heap.size ∧ ∀ k, v.ownBlock ≠ some k → w.drew.heap[k]? = w.heap[k]? := ⟨rfl, rfl, rfl, Nat.le_refl _, fun _ _ => rfl⟩
/-- a thing, told or changed, that is no more behind it -/
def FnK (P : Program) (F : FuncId) (args : Nat → List AV) (cs : List AV) (r : AV) : Prop :=
  ∀ (H : List AO) (i : Nat), H[i]? = some (.box cs) → FnH P F (args i) H r (H.set i .dead)
theorem FnK.of {P : Program} {f : FuncId} {fn : Func} {c : Code} {args : Nat → List AV} {cs : List AV} {r : AV} {n : Nat} (hf : P.funcs[f]? = some fn) (hb : fn.body = some c) (hn : fn.ntmps = n) (hna : ∀ i, (args i).length ≤ n)
    (h : ∀ (H : List AO) (i m : Nat), H.length = m → i < H.length → GOK m (H.set i (.box cs)) → AWP P n m c (endF P fn r (H.set i .dead)) (zipS (args i) 0) (H.set i (.box cs)) []) : FnK P f args cs r := by
  intro H i hi
  have hlt := (List.getElem?_eq_some_iff.1 hi).1
  have e : H.set i (.box cs) = H := set_of_get hi
  refine FnH.of0 hf hb hn (hna i) fun hG => ?_
  have := h H i H.length rfl hlt (by rw [e]; exact hG)
  rw [e] at this; exact this
/-- .. or one lets it go -/
theorem FnM.kill {P : Program} {F : FuncId} {args : Nat → List AV} {cs cs' : List AV} {r : AV} (h : FnM P F args cs r cs') (hr : NoH 0 r) : FnK P F args cs r := by
  intro H i hi w β vs hH hv
  refine (h H i hi w β vs hH hv).mono ?_
  rintro e w' ⟨v, β', rfl, k1, k2, k3⟩
  have hlt : i < H.length := (List.getElem?_eq_some_iff.1 hi).1
  have hb' : i < β'.length := by rw [k2.len, List.length_set]; exact hlt
  have hx : β'[i]? = some β'[i] := List.getElem?_eq_getElem hb'
  have ho := k2.ob i (.box cs') _ (List.getElem?_set_self hlt) hx
  have hto : β'[i].to .dead ∧ ∀ bs, β'[i] ≠ .guard bs := by
    cases hy : β'[i] with
    | box b => exact ⟨trivial, fun _ e => by cases e⟩
    | bld b v => exact ⟨trivial, fun _ e => by cases e⟩
    | row v g => rw [hy] at ho; exact ho.elim
    | dead => rw [hy] at ho; exact ho.elim
    | guard bs => rw [hy] at ho; exact ho.elim
  have hc := k2.change hx (x' := .dead) (o := .dead) hto.1 hto.2 rfl rfl rfl (Nat.le_refl _) (fun _ _ _ => rfl) (fun b hb => by cases hb) (fun _ => trivial)
  rw [List.set_set] at hc
  exact ⟨v, _, rfl, k1.trans hc.1, hc.2, k3.ext hc.1⟩
section
variable {P : Program} {ops : Array Oper} {n m : Nat} {QQ : List Kd → Sl → List AO → Prop} {l : List Oper} {ks : List Kd} {σ : Sl} {G L H : List AO} {o : Oper} {gd : Bool}
theorem GOK.setDead {m : Nat} {H : List AO} {i : Nat} {X : AO} (h : GOK m (H.set i X)) : GOK m (H.set i .dead) := h.setO (fun x hx => by cases hx)
/-- a thing that was handed in is told, and is no more -/
theorem ARun.callK {H0 : List AO} {f : Operand} {args : Array Operand} {ats : Array TypeId} {F i : Nat} {fs cs xs ax cA : List AV} {r Y : AV} {d : Option Tmp} (hi : i < H0.length) (hm : GOK m (H0.set i (.box cA))) (ho : o.op = .call { callee := .value f, args := args, argTypes := ats }) (hd : o.dst = d) (hn : dstLt n d = true) (hG : gdS ops σ o.guard = some true)
    (hcf : ∀ (va : Array Value) (W : World), (callFunc F va).run P W = .ok (.enter F va) W)
    (hf : Ev true σ f (.fn (.func F) fs cs)) (hx : EvL true σ args.toList xs) (has : fs ++ xs ++ cs = ax) (hF : FnH P F ax (H0.set i (.box cA) ++ L) r ((H0.set i (.box cA) ++ L).set i .dead)) (hY : optA o.guard true r = Y)
    (hr : GOK m (H0.set i .dead) → ARun P ops n QQ l (ks ++ [.write]) (putS σ d Y) (H0.set i .dead ++ L)) : ARun P ops n QQ (o :: l) ks σ (H0.set i (.box cA) ++ L) :=
  ARun.callH ho hd hn hG hcf hf hx has hF hY (by rw [_root_.Go.Proofs.YthogpkmidffdeaaDoor.setO hi]; exact hr hm.setDead)
end
end Go.Proofs.YthogpkmidffdeaaDoor
