/- The abstract machine: slices lent, older contracts taken over. -/
import Derived.Test.YtopmppnnihdnaaaAmEnd
import Derived.Test.YtopmppnnihdnaaaBase
namespace Go.Proofs.Ytopmppnnihdnaaa
set_option linter.unusedVariables false
set_option linter.unusedSimpArgs false
open Go.RowKit
/-- numbers, bools, texts -/
def plainV : Value → Bool
  | .int _ _ | .bool _ | .string _ => true
  | _ => false
theorem VRep.plain {β : List Hd} {w : World} {u v : Value} (h : VRep β w u (cAV v)) (hv : plainV v = true) : u = v := by
  cases v <;> cases hv
  · exact h.bool_inv
  · exact h.int_inv
  · exact h.str_inv
theorem sl_reads {α : Type} {enc : α → List Value} {av : α → AV} {z : Nat} (hz : ∀ x, (enc x).length = z) (hc : ∀ x, (av x).cells = (enc x).map cAV) (hp : ∀ x u, u ∈ enc x → plainV u = true) {β : List Hd} {w : World} {v : Value} {xs : List α} (h : VRep β w v (.sl (xs.map av))) :
    ∃ a cap, v = .slice a xs.length cap ∧ xs.length ≤ cap ∧ cap ≤ maxLen ∧ (a = none → cap = 0) ∧ Reads enc z w a xs := by
  generalize hX : xs.map av = ys at h
  cases h with
  | slnil =>
    have : xs = [] := by simpa using hX
    subst this
    exact ⟨none, 0, rfl, Nat.le_refl _, Nat.zero_le _, fun _ => rfl, Reads.nil _ _ _ _⟩
  | slemp p cap hm =>
    have : xs = [] := by simpa using hX
    subst this
    exact ⟨some p, cap, rfl, Nat.zero_le _, hm, (fun e => by cases e), Reads.nil _ _ _ _⟩
  | sl b off cap z' _ hcap hm hb hS hz' hd h =>
    subst hX
    refine ⟨some ⟨b, off, none⟩, cap, by simp, by simpa using hcap, hm, (fun e => by cases e), fun i hi => ⟨b, off, rfl, hb, fun j hj => ?_⟩⟩
    have hx : (xs.map av)[i]? = some (av xs[i]) := by rw [List.getElem?_map, List.getElem?_eq_getElem hi]; rfl
    have ez : z' = z := by rw [← hz' _ (List.mem_of_getElem? hx), hc, List.length_map, hz]
    subst ez
    have hj2 : j < (enc xs[i]).length := by rw [hz]; exact hj
    have hy : (av xs[i]).cells[j]? = some (cAV (enc xs[i])[j]) := by rw [hc, List.getElem?_map, List.getElem?_eq_getElem hj2]; rfl
    obtain ⟨u, hu⟩ := hd i j _ _ hx hy
    have h1 := (h i j _ _ u hx hy hu).plain (hp _ _ (List.getElem_mem hj2))
    rw [hu, h1, List.getElem?_eq_getElem hj2]
theorem flat_map {α : Type} {enc : α → List Value} {av : α → AV} (hc : ∀ x, (av x).cells = (enc x).map cAV) (xs : List α) : (xs.map av).flatMap AV.cells = (xs.flatMap enc).map cAV := by
  induction xs with
  | nil => rfl
  | cons x xs ih => rw [List.map_cons, List.flatMap_cons, ih, hc, List.flatMap_cons, List.map_append]
theorem FnNew.of_owns {α : Type} (enc : α → List Value) (av : α → AV) (z : Nat) (hz : ∀ x, (enc x).length = z) (hc : ∀ x, (av x).cells = (enc x).map cAV) (hp : ∀ x u, u ∈ enc x → plainV u = true) {P : Program} {F : FuncId} {e : TypeId} (xs : List α)
    (h : ∀ (w : World) (a : Option Addr) (cap : Nat), Reads enc z w a xs → xs.length ≤ cap → cap ≤ maxLen → (a = none → cap = 0) → Calls P F #[.slice a xs.length cap] w fun e' w' => ∃ v, e' = .returned v ∧ w'.ownsRow w.heap.size e z v xs.length (xs.flatMap enc) ∧ Below w.heap.size w w') :
    FnNew P F [.sl (xs.map av)] e z (xs.map av) := by
  intro H w β vs hH hv
  obtain ⟨hsz, hvr⟩ := hv
  obtain ⟨v0, rfl⟩ : ∃ v0, vs = #[v0] := by
    refine ⟨vs[0]'(by rw [hsz]; simp), Array.ext (by simpa using hsz) fun i h1 h2 => ?_⟩
    have : i = 0 := by simp at h2; omega
    subst this; rfl
  obtain ⟨a, cap, rfl, h1, h2, h3, h4⟩ := sl_reads hz hc hp (hvr 0 v0 _ rfl rfl)
  refine (h w a cap h4 h1 h2 h3).mono ?_
  rintro e' w' ⟨v, rfl, ho, hb⟩
  have hown : w'.ownsRow 0 e z v (xs.map av).length (xs.flatMap enc) := by
    refine ⟨by rw [List.length_map]; exact ho.1, ?_⟩
    rcases ho.2 with ⟨k1, k2⟩ | ⟨g, cp, cur, k1, _, k2⟩
    · exact .inl ⟨k1, by rw [List.length_map]; exact k2⟩
    · exact .inr ⟨g, cp, cur, by rw [List.length_map]; exact k1, Nat.zero_le _, by rw [List.length_map]; exact k2⟩
  have hsn := hH.snoc hb (x := .row v 0) (o := .row 0 e z (xs.map av)) ⟨rfl, xs.flatMap enc, hown, fun y hy => by
      obtain ⟨x, _, rfl⟩ := List.mem_map.1 hy
      rw [hc, List.length_map, hz], fun j u y q1 q2 => by
      rw [flat_map hc, List.getElem?_map, q1] at q2
      cases q2; exact cAV_rep _ _ _⟩ (fun b hb => (ho.lt b (opt_mem.1 hb)).1)
  refine ⟨v, _, rfl, hsn.1, hsn.2, .own _ _ _ (by simp [hH.len]) (fun u g' hb => ?_) (ownsRow_one ho)⟩
  rw [← hH.len, List.getElem?_append_right (Nat.le_refl _), Nat.sub_self] at hb
  cases hb
  exact ⟨Nat.le_refl _, fun _ => rfl⟩
/-! ### slices that are lent -/
inductive Flat : AV → Prop where
  | int (k : IntKind) (n : Int) : Flat (.int k n)
  | bool (b : Bool) : Flat (.bool b)
  | str (s : ByteArray) : Flat (.str s)
  | raw (v : Value) : Flat (.raw v)
  | agg (cs : List AV) (h : ∀ x, x ∈ cs → Flat x) : Flat (.agg cs)
  | tup (cs : List AV) (h : ∀ x, x ∈ cs → Flat x) : Flat (.tup cs)
theorem VRep.flat {β β' : List Hd} {w : World} {v : Value} {X : AV} (h : VRep β w v X) (hf : Flat X) : VRep β' w v X := by
  induction h with
  | int k n => exact .int k n
  | bool b => exact .bool b
  | str s => exact .str s
  | raw v => exact .raw v
  | agg vs cs hl _ ih => cases hf with | agg _ h => exact .agg vs cs hl fun j u x a b => ih j u x a b (h x (List.mem_of_getElem? b))
  | tup vs cs hl _ ih => cases hf with | tup _ h => exact .tup vs cs hl fun j u x a b => ih j u x a b (h x (List.mem_of_getElem? b))
  | slnil => cases hf
  | slemp p cap hm => cases hf
  | lit b n e us hb2 hS hh => cases hf
  | sl b off cap z xs hc hm2 hb hS hz hd _ ih => cases hf
  | pe b off cs hb hS hd _ ih => cases hf
  | box b i off hi h => cases hf
  | own v i g hi h _ => cases hf
  | elt v i g off hi h => cases hf
  | fn f us vs fs cs hl1 hl _ _ ih1 ih => cases hf
  | ifc t v x _ ih => cases hf
  | opt c v x _ h0 ih => cases hf
  | adr T v => cases hf
  | buf e s v => cases hf
/-- lent: slices of one's own are read by the callee -/
inductive Lent (H : List AO) : List AV → List AV → Prop where
  | nil : Lent H [] []
  | same {x : AV} {l m : List AV} (t : Lent H l m) : Lent H (x :: l) (x :: m)
  | own {i g : Nat} {e : TypeId} {z : Nat} {zs : List AV} {l m : List AV} (hi : H[i]? = some (.row g e z zs)) (hm : zs.length ≤ maxLen) (t : Lent H l m) : Lent H (.own i g :: l) (.sl zs :: m)
theorem row_reads {β : List Hd} {H : List AO} {w : World} (hH : HRel β H w) {i g : Nat} {e : TypeId} {z : Nat} {zs : List AV} (hi : H[i]? = some (.row g e z zs)) {v : Value} (hv : VRep β w v (.own i g)) {β' : List Hd} (hs : ∀ b, v.ownBlock = some b → Still β' b) (hx : Ext β w β' w ∨ ∀ u X, VRep β w u X → VRep β' w u X) : VRep β' w v (.sl zs) := by
  obtain ⟨us, h1, h2, h3, h4⟩ := hv.own_at hH hi
  have hcv : ∀ u X, VRep β w u X → VRep β' w u X := by
    rcases hx with hx | hx
    · exact fun u X h => h.ext hx
    · exact hx
  rcases h2.2 with ⟨rfl, h0⟩ | ⟨gb, cap, cur, rfl, _, hgg, hnc, hcm, hcs, htake⟩
  · have : zs = [] := List.eq_nil_of_length_eq_zero h0
    subst this; exact .slnil
  · have hgl := (Array.getElem?_eq_some_iff.1 hgg).1
    have hcell : ∀ q u, us[q]? = some u → w.cell? ⟨gb, q, none⟩ = some u := by
      intro q u hq
      have hc := cell_of_row w gb q cur e (0, 0) hgg
      rw [hc]
      rw [← htake, List.getElem?_take] at hq
      split at hq
      · simpa using hq
      · cases hq
    have hus : us.length = zs.length * z := h2.1
    have hfl := flat_len' zs h3
    refine .sl gb 0 cap z zs hnc hcm hgl (hs gb rfl) h3 (fun i q x y hi hq => ?_) (fun i q x y u hi hq hu => ?_)
    · have h7 := flat_at zs h3 i q x y hi hq
      have hlt7 : i * z + q < us.length := by rw [hus, ← hfl]; exact (List.getElem?_eq_some_iff.1 h7).1
      exact ⟨_, by rw [Nat.zero_add]; exact hcell _ _ (List.getElem?_eq_getElem hlt7)⟩
    · have h7 := flat_at zs h3 i q x y hi hq
      have hlt7 : i * z + q < us.length := by rw [hus, ← hfl]; exact (List.getElem?_eq_some_iff.1 h7).1
      rw [Nat.zero_add, hcell _ _ (List.getElem?_eq_getElem hlt7)] at hu
      cases hu
      exact hcv _ _ (h4 _ _ y (List.getElem?_eq_getElem hlt7) h7)
/-- rows are lent, the rest is guarded -/
def Hd.toL : Hd → Hd
  | .row _ _ => .guard []
  | h => .guard h.blks
theorem pure_lent {P : Program} {f : FuncId} {args ax : List AV} {r : AV} (h : FnP P f ax r) (hf : Flat r) {β : List Hd} {H : List AO} {w : World} (hH : HRel β H w) {vs : Array Value} (hv : VReps β w vs args) (hL : Lent H args ax) :
    Calls P f vs w fun e w' => ∃ v, e = .returned v ∧ Below w.heap.size w w' ∧ VRep β w' v r := by
  have hget : ∀ (i : Nat) (x : Hd), (β.map Hd.toL)[i]? = some x → ∃ y, β[i]? = some y ∧ x = y.toL := by
    intro i x hx
    rw [List.getElem?_map, Option.map_eq_some_iff] at hx
    obtain ⟨y, h1, h2⟩ := hx
    exact ⟨y, h1, h2.symm⟩
  have hblk : ∀ (y : Hd) (b : Nat), b ∈ y.toL.blks → b ∈ y.blks := by intro y b hb; cases y <;> first | exact hb | cases hb
  have hisg : ∀ y : Hd, ∃ ob, y.toL = .guard ob := by intro y; cases y <;> exact ⟨_, rfl⟩
  have hHc : HRel (β.map Hd.toL) (List.replicate β.length .guard) w := by
    refine ⟨hH.gl.weak (fun b hb x hx e => by
      obtain ⟨y, hy, rfl⟩ := List.mem_map.1 hx
      exact hb y hy (hblk y b e)), by simp, fun i o x h1 h2 => ?_, fun i j hi hj b hne h1 h2 h3 => ?_⟩
    · obtain ⟨y, k1, rfl⟩ := hget i x h2
      have : o = .guard := List.eq_of_mem_replicate (List.mem_of_getElem? h1)
      subst this
      obtain ⟨ob, e⟩ := hisg y
      rw [e]
      intro b hb
      exact hH.lt k1 (hblk y b (by rw [e]; exact hb))
    · obtain ⟨y, k1, rfl⟩ := hget i hi h1
      obtain ⟨z, k2, rfl⟩ := hget j hj h2
      exact fun e => hH.ap i j y z b hne k1 k2 (hblk y b h3) (hblk z b e)
  have hst : ∀ b, Still β b → Still (β.map Hd.toL) b := by
    intro b hb x hx e
    obtain ⟨y, hy, rfl⟩ := List.mem_map.1 hx
    exact hb y hy (hblk y b e)
  have hnar : ∀ u X, VRep β w u X → VRep (β.map Hd.toL) w u X := fun u X hu => hu.narrow (by simp) hst
    (fun i x b hb hc => by obtain ⟨y, _, e⟩ := hget i _ hb; obtain ⟨ob, e2⟩ := hisg y; rw [e2] at e; subst e; cases hc)
    (fun i v g hb => by obtain ⟨y, _, e⟩ := hget i _ hb; obtain ⟨ob, e2⟩ := hisg y; rw [e2] at e; cases e)
  have hargs : ∀ (args ax : List AV), Lent H args ax → ∀ us : List Value, us.length = args.length → (∀ (j : Nat) (u : Value) (x : AV), us[j]? = some u → args[j]? = some x → VRep β w u x) →
      args.length = ax.length ∧ ∀ (j : Nat) (u : Value) (x : AV), us[j]? = some u → ax[j]? = some x → VRep (β.map Hd.toL) w u x := by
    intro args ax hL
    induction hL with
    | nil => intro us _ _; exact ⟨rfl, fun j u x _ h => by simp at h⟩
    | @same x l m t ih =>
      intro us hl hu
      cases us with
      | nil => simp at hl
      | cons u us =>
        obtain ⟨i1, i2⟩ := ih us (by simpa using hl) (fun j u x a b => hu (j + 1) u x (by simpa using a) (by simpa using b))
        refine ⟨by simp [i1], fun j u' x' a b => ?_⟩
        cases j with
        | zero => simp at a b; subst a; subst b; exact hnar _ _ (hu 0 _ _ rfl rfl)
        | succ j => exact i2 j u' x' (by simpa using a) (by simpa using b)
    | @own i g e z zs l m hi hm t ih =>
      intro us hl hu
      cases us with
      | nil => simp at hl
      | cons u us =>
        obtain ⟨i1, i2⟩ := ih us (by simpa using hl) (fun j u x a b => hu (j + 1) u x (by simpa using a) (by simpa using b))
        refine ⟨by simp [i1], fun j u' x' a b => ?_⟩
        cases j with
        | zero =>
          simp at a b; subst a; subst b
          have hv0 := hu 0 _ _ rfl rfl
          obtain ⟨us', k1, _⟩ := hv0.own_at hH hi
          refine row_reads hH hi hv0 (fun b hb x hx ex => ?_) (.inr hnar)
          obtain ⟨y, hy, rfl⟩ := List.mem_map.1 hx
          obtain ⟨q, hq, rfl⟩ := List.mem_iff_getElem.1 hy
          by_cases eq : q = i
          · subst eq
            have : β[q] = .row u g := by rw [List.getElem?_eq_getElem hq] at k1; exact Option.some.inj k1
            rw [this] at ex; cases ex
          · exact hH.ap i q _ _ b (fun e => eq e.symm) k1 (List.getElem?_eq_getElem hq) (opt_mem.2 hb) (hblk _ b ex)
        | succ j => exact i2 j u' x' (by simpa using a) (by simpa using b)
  obtain ⟨a1, a2⟩ := hargs args ax hL vs.toList (by simpa using hv.1) (fun j u x p q => hv.2 j u x (by simpa using p) q)
  refine (h.2 β.length w (β.map Hd.toL) vs hHc ⟨by rw [hv.1, a1], fun j u x p q => a2 j u x (by simpa using p) q⟩).mono ?_
  rintro e w' ⟨v, β', rfl, k1, k2, k3⟩
  refine ⟨v, rfl, ⟨k1.os, k1.tape, k1.output, k1.size, fun k hk => ?_⟩, k3.flat hf⟩
  by_cases hs : Still (β.map Hd.toL) k
  · exact k1.block k hk hs
  · have : ∃ y, y ∈ β.map Hd.toL ∧ k ∈ y.blks := by
      unfold Still at hs
      simp only [Classical.not_forall] at hs
      obtain ⟨y, hy, h2⟩ := hs
      exact ⟨y, hy, Classical.not_not.1 h2⟩
    obtain ⟨y, hy, hb⟩ := this
    obtain ⟨y0, _, rfl⟩ := List.mem_map.1 hy
    obtain ⟨ob, e⟩ := hisg y0
    rw [e] at hb hy
    exact k1.guard ob k hy hb hk
section
variable {P : Program} {ops : Array Oper} {n m : Nat} {QQ : List Kd → Sl → List AO → Prop} {l : List Oper} {ks : List Kd} {σ : Sl} {G L H : List AO} {o : Oper} {gd : Bool}
/-- a call to which a slice of one's own is lent -/
theorem ARun.callLent {f : Operand} {args : Array Operand} {ats : Array TypeId} {F : FuncId} {fs cs xs ax ax' : List AV} {r Y : AV} {d : Option Tmp} (ho : o.op = .call { callee := .value f, args := args, argTypes := ats }) (hd : o.dst = d) (hn : dstLt n d = true) (hG : gdS ops σ o.guard = some true)
    (hcf : ∀ (va : Array Value) (W : World), (callFunc F va).run P W = .ok (.enter F va) W)
    (hf : Ev true σ f (.fn (.func F) fs cs)) (hx : EvL true σ args.toList xs) (has : fs ++ xs ++ cs = ax) (hL : Lent H ax ax') (hF : FnP P F ax' r) (hfl : Flat r) (hY : optA o.guard true r = Y)
    (hr : ARun P ops n QQ l (ks ++ [.read]) (putS σ d Y) H) : ARun P ops n QQ (o :: l) ks σ H := by
  subst hd; subst hY; subst has
  refine ⟨.read, _, H, hn, ⟨rfl, fun a W β hHr hl K Q hK => ?_⟩, hr⟩
  rw [gd_wanted hG hl, if_pos rfl]
  have h0 := hf.rep rfl hl (by simp [ho, Op.operands, Call.operands])
  generalize hv : a.eval f = v at h0
  cases h0 with
  | fn _ us vs _ _ hl1 hl2 h1 h2 =>
    have ha := EvL.reps (β := β) (W := W) (a := a) hx (fun x hx X h => h.rep rfl hl (by simp only [ho, Op.operands, Call.operands]; exact Array.mem_append.2 (.inr (by simpa using hx))))
    have hus : us.toList.length = fs.length ∧ ∀ (j : Nat) (u : Value) (x : AV), us.toList[j]? = some u → fs[j]? = some x → VRep β W u x := ⟨by simpa using hl1, fun j u x p q => h1 j u x (by simpa using p) q⟩
    have hvs : vs.toList.length = cs.length ∧ ∀ (j : Nat) (u : Value) (x : AV), vs.toList[j]? = some u → cs[j]? = some x → VRep β W u x := ⟨by simpa using hl2, fun j u x p q => h2 j u x (by simpa using p) q⟩
    have hall := reps_append (reps_append hus ha) hvs
    have hrun : (execOp a.eval o).run P W = .ok (.enter F (us ++ args.map a.eval ++ vs)) W := by
      simp [execOp, ho, resolve, hv, Deferred.ofValue, invoke, hcf]
    unfold Oper.wp
    rw [hrun, Oper.upon_enter]
    refine (pure_lent hF hfl hHr (vs := us ++ args.map a.eval ++ vs) ⟨?_, ?_⟩ hL).mono ?_
    · rw [← Array.length_toList]; simpa using hall.1
    · intro j u x p q
      exact hall.2 j u x (by rw [← Array.getElem?_toList] at p; simpa using p) q
    · rintro e w' ⟨v', rfl, k1, k3⟩
      refine hK v' w' β (Ext.of_below β k1) (hHr.below k1) ?_
      cases o.guard with
      | none => exact k3
      | some g => exact .opt _ _ _ (fun _ => k3) (fun e => by cases e)
/-- len of a slice of one's own -/
theorem ARun.lenOwn {x : Operand} {t e e' : TypeId} {i g z : Nat} {xs : List AV} {Y : AV} {d : Option Tmp} (ho : o.op = .call { callee := .builtin .len, args := #[x], argTypes := #[t] }) (hd : o.dst = d) (hn : dstLt n d = true) (hG : gdS ops σ o.guard = some gd)
    (hu : P.underlying t = some (.slice e)) (hx : Ev gd σ x (.own i g)) (hH : H[i]? = some (.row g e' z xs)) (hY : optA o.guard gd (.int .i64 (xs.length : Int)) = Y)
    (hr : ARun P ops n QQ l (ks ++ [.read]) (putS σ d Y) H) : ARun P ops n QQ (o :: l) ks σ H := by
  refine ARun.read hd hn hG hY (fun hg a W β hHr hl => ⟨.int .i64 xs.length, ?_, .int _ _⟩) hr
  obtain ⟨us, h1, h2, h3, h4⟩ := (hx.rep hg hl (by simp [ho, Op.operands, Call.operands])).own_at hHr hH
  rcases h2.2 with ⟨h5, h6⟩ | ⟨gb, cap, cur, h5, _⟩
  · simp [execOp, ho, resolve, h5, invoke, builtin, Builtin.len_, run_underlying hu, goInt_run, h6]
  · simp [execOp, ho, resolve, h5, invoke, builtin, Builtin.len_, run_underlying hu, goInt_run]
/-- a slice's literal, of one's own -/
theorem ARun.buildOwn {t e : TypeId} {len j : Nat} {parts : Array (Nat × Operand)} {ps : List (Nat × AV)} {z : Nat} {zv : Value} {C xs : List AV} {Y : AV} {d : Option Tmp} (hm : GOK m G) (hj : L.length = j) (ho : o.op = .buildSlice t len parts) (hd : o.dst = d) (hn : dstLt n d = true) (hG : gdS ops σ o.guard = some true)
    (hu : P.underlying t = some (.slice e)) (hz : Sz P e z) (hzv : Zv P e zv) (hzs : zv.cells.size = z) (hbig : len * z ≤ 2 ^ 24)
    (hx : EvP true σ parts.toList ps) (hs : (ps.all fun p => shaped p.2) = true) (hxs : ps.map (·.2) = xs) (hlen : xs.length = len) (hall : (xs.all fun x => Nat.beq x.cells.length z) = true) (hml : len ≤ maxLen)
    (hC : fillA (fun i => some (i * z, z)) ((List.range (len * z)).map fun j => cAV (zv.cells.toList.getD (j % zv.cells.size) default)) ps = some C) (hCx : C = xs.flatMap AV.cells) (hY : optA o.guard true (.own (m + j) 0) = Y)
    (hr : ARun P ops n QQ l (ks ++ [.write]) (putS σ d Y) (G ++ (L ++ [.row 0 e z xs]))) : ARun P ops n QQ (o :: l) ks σ (G ++ L) := by
  rw [← zeros_eq] at hC
  refine ARun.write hd hn hG hY (fun a W β hHr hl => ?_) hr
  obtain ⟨vs', h1, h2⟩ := fill_rep (β := β) (w := W) (a := a) (fun i => some (i * z, z)) parts.toList ps hx (EvP.looks rfl hl (by simp [ho, Op.operands])) hs _ _ C (CRep.zero β W ((Array.range (len * z)).map (zv.cells[· % zv.cells.size]!))) hC
  have hzl : ∀ x, x ∈ xs → x.cells.length = z := fun x hx => Nat.eq_of_beq_eq_true (List.all_eq_true.1 hall x hx)
  have hb : Below W.heap.size W (W.alloc (.cells vs' e)) := (Below.refl _ _).alloc (Nat.le_refl _) _
  have hvl : vs'.size = len * z := by rw [h2.1, hCx, flat_len' xs hzl, hlen]
  have hsn := hHr.snoc (w' := W.alloc (.cells vs' e)) hb (x := .row (.slice (some ⟨W.heap.size, 0, none⟩) len len) 0) (o := .row 0 e z xs) ⟨rfl, vs'.toList, ⟨by simp [hvl, hlen], .inr ⟨W.heap.size, len, vs', by rw [hlen], Nat.zero_le _, heap_alloc_new W _, by omega, hml, hvl, List.take_of_length_le (by simp [hvl, hlen])⟩⟩, hzl, fun q u y a1 a2 => by
    refine VRep.ext ⟨hb.os, hb.tape, hb.output, hb.size, fun k hk _ => hb.block k hk, fun k hk hs y hy => ?_, fun i y hy => ⟨y, by rw [List.getElem?_append_left (List.getElem?_eq_some_iff.1 hy).1]; exact hy, y.to_refl⟩, fun _ b _ _ hlt => hb.block b hlt⟩ (h2.2 q u y (by simpa using a1) (by rw [hCx]; exact a2))
    rcases List.mem_append.1 hy with hy | hy
    · exact hs y hy
    · simp at hy; subst hy; intro e2; simp [Hd.blks, Value.ownBlock] at e2; omega⟩ (fun b hb => by simp [Hd.blks, Value.ownBlock] at hb; omega)
  have hlenb : β.length = m + j := by rw [hHr.len, List.length_append, hm.1, hj]
  refine ⟨.slice (some ⟨W.heap.size, 0, none⟩) len len, _, β ++ [.row (.slice (some ⟨W.heap.size, 0, none⟩) len len) 0], ?_, hsn.1, by rw [← List.append_assoc]; exact hsn.2, .own _ _ _ (by rw [List.length_append, hlenb]; simp) fun u g' hb2 => ?_⟩
  · have hnb : ¬ len * z > 2 ^ 24 := by omega
    by_cases h0 : len * z = 0
    · have e1 : ((Array.range (len * z)).map (zv.cells[· % zv.cells.size]!)) = (#[] : Array Value) := by rw [h0]; simp
      rw [e1] at h1
      have e2 : Array.range 0 = #[] := rfl
      simp [execOp, ho, Instr.buildSlice, run_underlying hu, hz.run, h0, h1, e2, newRow]
    · simp [execOp, ho, Instr.buildSlice, run_underlying hu, hz.run, h0, hnb, hzv.run, h1, newRow]
  · rw [List.getElem?_append_right (by omega), hlenb, Nat.sub_self] at hb2
    cases hb2; exact ⟨Nat.le_refl _, fun _ => rfl⟩
/-- a call by which one thing of one's own is changed -/
theorem ARun.callSet {f : Operand} {args : Array Operand} {ats : Array TypeId} {F j : Nat} {fs cs xs ax : List AV} {r Y : AV} {d : Option Tmp} {ob : AO} {L' : List AO} (hm : GOK m G) (ho : o.op = .call { callee := .value f, args := args, argTypes := ats }) (hd : o.dst = d) (hn : dstLt n d = true) (hG : gdS ops σ o.guard = some true)
    (hcf : ∀ (va : Array Value) (W : World), (callFunc F va).run P W = .ok (.enter F va) W)
    (hf : Ev true σ f (.fn (.func F) fs cs)) (hx : EvL true σ args.toList xs) (has : fs ++ xs ++ cs = ax) (hF : FnH P F ax (G ++ L) r ((G ++ L).set (m + j) ob)) (hL : L.set j ob = L') (hY : optA o.guard true r = Y)
    (hr : ARun P ops n QQ l (ks ++ [.write]) (putS σ d Y) (G ++ L')) : ARun P ops n QQ (o :: l) ks σ (G ++ L) :=
  ARun.callH ho hd hn hG hcf hf hx has hF hY (by rw [hm.set, hL]; exact hr)
end
@[simp] theorem flat_int (k : IntKind) (i : Int) : Flat (.int k i) := .int k i
@[simp] theorem flat_bool (b : Bool) : Flat (.bool b) := .bool b
@[simp] theorem flat_str (s : ByteArray) : Flat (.str s) := .str s
@[simp] theorem flat_agg (cs : List AV) : Flat (.agg cs) ↔ ∀ x, x ∈ cs → Flat x := ⟨fun h => by cases h with | agg _ h => exact h, .agg cs⟩
@[simp] theorem flat_tup (cs : List AV) : Flat (.tup cs) ↔ ∀ x, x ∈ cs → Flat x := ⟨fun h => by cases h with | tup _ h => exact h, .tup cs⟩
end Go.Proofs.Ytopmppnnihdnaaa
