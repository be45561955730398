/- The basket: the walk of BasketAll. -/
import Derived.Test.YtfnmaemeofkagaaBasketBack
import Derived.Laws.AppendOwnNone
namespace Go.Proofs.Ytfnmaemeofkagaa
open Go.ChangeShapes Go.WideShapes Go.ChangeAt Go.RowKit
open StockP
set_option maxRecDepth 100000
/-- append of a slice that may be nil, to a row of the call's own -/
theorem wpList_append_srcB {α : Type} (enc : α → List Value) (size : Nat) (hz : ∀ x, (enc x).length = size) (h1c : ∀ x, ∀ u ∈ enc x, u.oneCell' = true) {P : Program} {w : World} {ops : Array Oper} {rest : List Oper} {o : Oper} {a : Act} {Q : Exit → Act → World → Prop} (hgd : o.guard = none) (s x : Operand) (t : TypeId)
    (ho : o.op = .call { callee := .builtin .append, args := #[s, x], argTypes := #[t, t] })
    (base : Nat) (e : TypeId) (i : TypeInfo) (z : Value) (bytes : Nat) (ht : P.underlying t = some (.slice e)) (hi : P.info? e = some i) (hzr : i.zero = some z)
    (hsize : i.size = size) (hby : i.bytes = bytes) (hzs : z.cells.size = size) (hsz : 0 < size)
    (v : Value) (n : Nat) (ys : List Value) (hs : a.eval s = v) (hown : w.ownsRow base e size v n ys)
    (ad : Option Addr) (c : Nat) (xs : List α) (hx : a.eval x = .slice ad xs.length c) (hnil : ad = none → c = 0) (hr : Reads enc size w ad xs)
    (h63 : n + xs.length ≤ maxLen) (hbytes : (n + xs.length) * bytes ≤ 140737488355328) (hbase : base ≤ w.heap.size)
    (h : ∀ v' w', w'.ownsRow base e size v' (n + xs.length) (ys ++ xs.flatMap enc) → w.grownBy w' v.ownBlock → wpList P ops Q rest (a.put o.dst v') w') : wpList P ops Q (o :: rest) a w := by
  cases ad with
  | none =>
    have hc := hnil rfl
    subst hc
    have he : xs = [] := by
      cases xs with
      | nil => rfl
      | cons y l => obtain ⟨_, _, h, _⟩ := hr 0 (by simp); cases h
    subst he
    refine wpList_append_own_none hgd s x t ho base e i size ht hi v n ys hs hown hx (h v w (by simpa using hown) ⟨rfl, rfl, rfl, Nat.le_refl _, fun _ _ _ => rfl⟩)
  | some ad =>
    refine wpList_append_own w hgd s x t ho base e i z size bytes ht hi hzr hsize hby hzs hsz v n ys hs hown ad xs.length c (xs.flatMap enc) hx (flat_len enc size hz xs) (fun j u hu => (hr.flat hsz hz j u hu).2) ?_ h63 hbytes hbase (fun v' w' h2 h3 _ => h v' w' h2 h3)
    intro u hu
    obtain ⟨y, _, hy⟩ := List.mem_flatMap.1 hu
    exact h1c y u hy
theorem OneItem.set1 {W : World} {B : Nat} {a b c d : Value} (h : OneItem W B a b c d) (u : Value) : OneItem (W.setCell ⟨B, 1, none⟩ u) B a u c d := by
  obtain ⟨hs, x0, x1, x2, x3⟩ := h
  have nn : ∀ i j : Nat, i ≠ j → (⟨B, i, none⟩ : Addr) ≠ ⟨B, j, none⟩ := fun i j h e => h (by injection e)
  exact ⟨by simpa using hs, (World.cell?_setCell_other _ _ _ _ (nn 1 0 (by omega))).trans x0, World.cell?_setCell_same _ _ _ x1, (World.cell?_setCell_other _ _ _ _ (nn 1 2 (by omega))).trans x2, (World.cell?_setCell_other _ _ _ _ (nn 1 3 (by omega))).trans x3⟩
theorem OneItem.set2 {W : World} {B : Nat} {a b c d : Value} (h : OneItem W B a b c d) (u : Value) : OneItem (W.setCell ⟨B, 2, none⟩ u) B a b u d := by
  obtain ⟨hs, x0, x1, x2, x3⟩ := h
  have nn : ∀ i j : Nat, i ≠ j → (⟨B, i, none⟩ : Addr) ≠ ⟨B, j, none⟩ := fun i j h e => h (by injection e)
  exact ⟨by simpa using hs, (World.cell?_setCell_other _ _ _ _ (nn 2 0 (by omega))).trans x0, (World.cell?_setCell_other _ _ _ _ (nn 2 1 (by omega))).trans x1, World.cell?_setCell_same _ _ _ x2, (World.cell?_setCell_other _ _ _ _ (nn 2 3 (by omega))).trans x3⟩
def canB (xs : List It) (l : Ln) : Bool := decide (can xs l)
theorem canB_err {xs : List It} (h : ok xs = true) (l : Ln) (h1 : 1 ≤ l.qty) (h2 : l.qty ≤ 1000000) : ((withP (holdG l.qty) xs l.item l.qty).2 == 0) = canB xs l := by
  have ho := hold_one h l h1 h2
  unfold canB
  by_cases hc : can xs l
  · rw [(ho.1 hc).1, decide_eq_true hc]; rfl
  · rw [decide_eq_false hc, beq_eq_false_iff_ne]; exact (ho.2 hc).1
theorem all_snoc (p : Ln → Bool) (l : List Ln) (x : Ln) : (l ++ [x]).all p = (l.all p && p x) := by simp
theorem sumOf_snoc (l : List Ln) (x : Ln) (i : Int) : sumOf (l ++ [x]) i = sumOf l i + if i = x.item then x.qty else 0 := by
  induction l with
  | nil => simp [sumOf]
  | cons y l ih => simp only [List.cons_append, sumOf, ih]; omega
theorem sumOf_take {ls : List Ln} (h : ∀ l, l ∈ ls → 1 ≤ l.qty ∧ l.qty ≤ 1000000) (k : Nat) (i : Int) : 0 ≤ sumOf (ls.take k) i ∧ sumOf (ls.take k) i ≤ 1000000 * (ls.length : Int) := by
  have key : ∀ l : List Ln, (∀ x, x ∈ l → 1 ≤ x.qty ∧ x.qty ≤ 1000000) → 0 ≤ sumOf l i ∧ sumOf l i ≤ 1000000 * (l.length : Int) := by
    intro l
    induction l with
    | nil => intro _; simp [sumOf]
    | cons x l ih =>
      intro h
      have h1 := h x List.mem_cons_self
      have h2 := ih fun y hy => h y (List.mem_cons_of_mem _ hy)
      unfold sumOf
      simp only [List.length_cons]
      push_cast
      split <;> omega
  have h1 := key (ls.take k) (fun x hx => h x (List.mem_of_mem_take hx))
  have h2 : ((ls.take k).length : Int) ≤ (ls.length : Int) := by rw [List.length_take]; omega
  omega
set_option maxHeartbeats 16000000 in
theorem basketAll_law (w : World) (a : Option Addr) (cap : Nat) (xs : List It) (hr : Reads encT 4 w a xs) (hf : ∀ x, x ∈ xs → fitT x) (hcap : xs.length ≤ cap ∧ cap ≤ maxLen) (hn : a = none → cap = 0) (b : Option Addr) (capb : Nat) (ls : List Ln) (hr2 : Reads encL 2 w b ls) (hf2 : ∀ x, x ∈ ls → fitL x) (hcap2 : ls.length ≤ capb ∧ capb ≤ maxLen) (_hn2 : b = none → capb = 0) :
    Calls Try.prog 4 #[.slice a xs.length cap, .slice b ls.length capb] w fun e w' => e = .returned (.bool true) ∧ Below w.heap.size w w' := by
  have hl : xs.length ≤ maxLen := Nat.le_trans hcap.1 hcap.2
  have hl2 : ls.length ≤ maxLen := Nat.le_trans hcap2.1 hcap2.2
  have hlb := hl
  have hlb2 := hl2
  unfold maxLen at hlb hlb2
  by_cases h3 : 60 < xs.length
  · go_enter Try.func4, Try.ntmps4
    go_wp2_with fail
    refine (awake_any _).mono ?_
    rintro e w9 ⟨rfl, hb9⟩
    have hb := hb9
    go_wp2_with fail
    go_ret
    exact ⟨rfl, hb⟩

  have hd : decide ((60 : Int) < (xs.length : Int)) = false := by simp; omega
  by_cases h4 : 60 < ls.length
  · go_enter Try.func4, Try.ntmps4
    go_wp2_with fail
    refine (awake_any _).mono ?_
    rintro e w9 ⟨rfl, hb9⟩
    have hb := hb9
    go_wp2_with fail
    go_ret
    exact ⟨rfl, hb⟩

  have hd2 : decide ((60 : Int) < (ls.length : Int)) = false := by simp; omega
  have CC := Lib.hid (check_any a cap xs w hr hl hf)
  have CL := Lib.hid (fun W h => checkL_any b capb ls W h hl2 hf2)
  have HR := Lib.hid hr
  have HR2 := Lib.hid hr2
  by_cases ho1 : ok xs = true
  case neg =>
    have he : okE xs = 2 := by unfold okE; rw [if_neg ho1]
    rw [he] at CC
    clear he ho1 hr hr2 hf hf2 h3 h4 hcap hcap2 hn
    go_enter Try.func4, Try.ntmps4
    go_wp2_with fail
    refine CC.out.mono ?_
    rintro e w1 ⟨rfl, hb⟩
    go_wp2_with fail
    refine (awake_any _).mono ?_
    rintro e w9 ⟨rfl, hb9⟩
    replace hb := bt hb hb9; clear hb9
    go_wp2_with fail
    go_ret
    exact ⟨rfl, hb⟩

  have he : okE xs = 0 := by unfold okE; rw [if_pos ho1]
  rw [he] at CC
  by_cases ho2 : okL ls = true
  case neg =>
    have he2 : okLE ls = 2 := by unfold okLE; rw [if_neg ho2]
    rw [he2] at CL
    clear he he2 ho1 ho2 hr hr2 hf hf2 h3 h4 hcap hcap2 hn
    go_enter Try.func4, Try.ntmps4
    go_wp2_with fail
    refine CC.out.mono ?_
    rintro e w1 ⟨rfl, hb⟩
    go_wp2_with fail
    refine (CL.out _ (HR2.out.below hb)).mono ?_
    rintro e w2 ⟨rfl, hb2⟩
    replace hb := bt hb hb2; clear hb2
    go_wp2_with fail
    refine (awake_any _).mono ?_
    rintro e w9 ⟨rfl, hb9⟩
    replace hb := bt hb hb9; clear hb9
    go_wp2_with fail
    go_ret
    exact ⟨rfl, hb⟩

  have he2 : okLE ls = 0 := by unfold okLE; rw [if_pos ho2]
  rw [he2] at CL
  have h20 : xs.length ≤ 20 := ok_len ho1
  have h5 : ls.length ≤ 5 := by have h2 := ho2; unfold okL at h2; simp at h2; omega
  have HM := Lib.hid (okLFrom_mem (okL_from ho2))
  have HOK := Lib.hid (And.intro ho1 ho2)
  have HMAY := Lib.hid (fun x hx => may_bd (ok_may ho1 x hx))
  have HA := Lib.hid (hold_all ls 0 0 xs ho1 (okL_from ho2))
  have hae : allP (fun ys i q => withP (holdG q) ys i q) xs ls = goesP (fun ys i q => withP (holdG q) ys i q) 0 xs ls := by unfold allP; rw [if_pos ⟨ho1, ho2⟩]
  have HH := Lib.hid (fun W h h2 => holdB_any a cap xs b capb ls W h hcap hf h2 hl2 hf2)
  rw [hae] at HH
  have S := Lib.hid (fun i q W h => reserve_any a cap xs i q W h hl hf)
  have FI := Lib.hid (fun W h h2 => fits_any a cap xs b capb ls W h hl hf h2 hl2 hf2)
  have LA := Lib.hid (fun W h h2 => lacks_any a cap xs b capb ls W h hl hf h2 hl2 hf2)
  have HFC := Lib.hid (fits_can xs ls)
  have HN := Lib.hid hn
  obtain ⟨i0, hi, hz0, hz1, hz2⟩ := info_parts infoT
  have HCAP := Lib.hid hcap
  have HL := Lib.hid hl
  clear hae he he2 ho1 ho2 hr hr2 hf hf2 h3 h4 hcap hcap2 hn hl hl2
  go_enter Try.func4, Try.ntmps4
  go_wp2_with fail
  refine CC.out.mono ?_
  rintro e w1 ⟨rfl, hb⟩
  go_wp2_with fail
  refine (CL.out _ (HR2.out.below hb)).mono ?_
  rintro e w2 ⟨rfl, hb2⟩
  replace hb := bt hb hb2; clear hb2 CC CL
  have HRb := Lib.hid (HR.out.below (hb.alloc hb.size (.cells #[] 42)))
  go_wp2_with (at_builtin; refine wpList_append_srcB encT 4 encT_len (fun x u hu => by simp [encT] at hu; rcases hu with rfl | rfl | rfl | rfl <;> rfl) rfl _ _ 22 rfl w2.heap.size 42 i0 (itv 0 0 0 0) 32 Try.underlying22 hi hz0 hz1 hz2 rfl (by decide) _ _ _ rfl (World.ownsRow_made w2 #[] 0 (Nat.le_refl _) (by unfold maxLen; omega) rfl) a cap xs rfl HN.out HRb.out ?c3 ?c4 ?c5 ?_)
  case c3 => unfold maxLen; omega
  case c4 => omega
  case c5 => simp
  intro v1 wA hown' hgrow
  have hbw : Below w.heap.size w wA := (hb.alloc hb.size _).grown hgrow (by have := hb.size; simp; omega) (fun k hk => by have := hb.size; simp [Value.ownBlock] at hk; omega)
  have hwas : IsSl encT 4 wA v1 xs := encT_sl (by simpa using hown')
  clear hown' hgrow HRb hb hi hz0 hz1 hz2 i0
  obtain ⟨a1, c1, rfl, _, _, hra⟩ := hwas
  have HWAS := Lib.hid hra
  have HBW := Lib.hid hbw
  clear hra hbw
  go_wp2_with fail
  go_loopw [6, 7, 8, 9] (fun v6 v7 v8 v9 wr => ∃ (k : Nat), k ≤ ls.length ∧ v7 = .int .i64 k ∧ v6 = .bool ((ls.take k).all (canB xs)) ∧ Below wA.heap.size wA wr) (fun _ v7 _ _ _ => ls.length - (intOf v7).toNat)
  case atStart => exact ⟨0, by omega, rfl, rfl, Below.refl _ _⟩
  case round =>
    obtain ⟨k, hk, rfl, rfl, hbel⟩ := hrel
    by_cases hlt : k < ls.length
    · obtain ⟨bb, off, rfl, hbl, c0', c1'⟩ := (HR2.out.below (bt HBW.out hbel)).line k hlt
      have htk : ls.take (k + 1) = ls.take k ++ [ls[k]] := by simp
      have hqb := HM.out _ (List.getElem_mem hlt)
      have HE := Lib.hid ((congrArg (fun l => l.all (canB xs)) htk).trans (all_snoc (canB xs) (ls.take k) ls[k]))
      have HCE := Lib.hid (canB_err HOK.out.1 ls[k] hqb.2.2.1 hqb.2.2.2)
      clear htk hqb
      generalize ls[k] = x at c0' c1' HE HCE
      obtain ⟨i, q⟩ := x
      simp only at c0' c1' HE HCE
      have SS := Lib.hid (fun W (h : Below wr.heap.size wr W) => S.out i q W (HR.out.below (bt (bt HBW.out hbel) h)))
      generalize withP (holdG q) xs i q = r at SS HCE
      obtain ⟨rl, re⟩ := r
      simp only at HCE
      generalize hE : (ls.take k).all (canB xs) = E at *
      clear hE
      cases E
      all_goals
        go_wp2_with fail
        go_region_with (go_at_call 21; refine (SS.out _ ?_).mono ?_; exact ⟨rfl, rfl, rfl, Nat.le_refl _, fun _ _ => rfl⟩; rintro e w3 ⟨v, rfl, ⟨va, vc, rfl, h1, h2, h3⟩, hab, hb4⟩)
        all_goals
          have HK := Lib.hid (bt hbel (undrew hb4))
          clear h1 h2 h3 hab hb4
          go_wp2_with fail
          refine ⟨⟨k + 1, by omega, by go_num, ?_, HK.out⟩, by simp [intOf]; omega⟩
          rw [HE.out, ← HCE.out]; simp
    · obtain rfl : k = ls.length := by omega
      rw [List.take_length]
      have hb0 := bt HBW.out hbel
      have HWA := Lib.hid (HWAS.out.below hbel)
      have hA := HA.out
      have hfc := HFC.out
      have HLAC := Lib.hid (lacks_nil xs ls)
      have hlk : lacksP xs ls = lacksF xs ls := by unfold lacksP; rw [if_pos ⟨HOK.out.1, HOK.out.2⟩]
      have hEc : ls.all (canB xs) = true ↔ ∀ l, l ∈ ls → can xs l := by
        rw [List.all_eq_true]; constructor
        · intro h l hl; simpa [canB] using h l hl
        · intro h l hl; simpa [canB] using h l hl
      cases hE : ls.all (canB xs) with
      | false =>
        have hnc : ¬ ∀ l, l ∈ ls → can xs l := fun h => by rw [hEc.2 h] at hE; cases hE
        have h1 := hA.2 hnc
        have hfi : fitsP xs ls = false := by
          cases hx : fitsP xs ls with
          | false => rfl
          | true => exact absurd (hfc.1 hx).2.2 hnc
        rw [hfi] at FI
        generalize goesP (fun ys i q => withP (holdG q) ys i q) 0 xs ls = A at HH h1
        obtain ⟨A1, A2, A3⟩ := A
        simp only at h1 HH
        obtain ⟨e3, rfl, e2⟩ := h1
        have e3b : (A3 == 0) = false := by simpa using e3
        have e3c : (A3 != 0) = true := by simpa using e3
        have e2d : decide (A2 < (ls.length : Int)) = true := by simp; omega
        have HALL := Lib.hid (And.intro hE hb0)
        clear hA hfc hEc hnc hfi e3 e2 hE hb0 hlk LA
        go_wp2_with fail
        refine (HH.out _ (HR.out.below HALL.out.2) (HR2.out.below HALL.out.2)).mono ?_
        rintro e w3 ⟨v3, rfl, ⟨a3, c3, rfl, _, _, hr3⟩, hb2⟩
        have hb := bt HALL.out.2 hb2
        replace HWA := Lib.hid (HWA.out.below hb2); clear hb2 hr3
        go_wp2_with fail
        refine (sameT_any _ _ _ _ xs xs _ (HR.out.below hb) HWA.out HL.out).mono ?_
        rw [sameT_rfl]
        rintro e w4 ⟨rfl, hb2⟩
        replace hb := bt hb hb2; clear hb2 HWA
        go_wp2_with fail
        refine (FI.out _ (HR.out.below hb) (HR2.out.below hb)).mono ?_
        rintro e w5 ⟨rfl, hb2⟩
        replace hb := bt hb hb2; clear hb2
        go_wp2_with fail
        refine (awake_any _).mono ?_
        rintro e w9 ⟨rfl, hb9⟩
        replace hb := bt hb hb9; clear hb9
        go_wp2_with fail
        go_ret
        exact ⟨rfl, hb⟩
      | true =>
        have hc := hEc.1 hE
        have h1 := hA.1 hc
        have hfi : fitsP xs ls = true := hfc.2 ⟨HOK.out.1, HOK.out.2, hc⟩
        have hln : lacksP xs ls = [] := by rw [hlk]; exact HLAC.out.2 fun l hl => (hc l hl).2
        rw [hfi] at FI
        rw [hln] at LA
        rw [h1] at HH
        have HALL := Lib.hid (And.intro hE hb0)
        clear hA hfc hEc hfi hE hb0 hlk hln h1 hc HLAC
        go_wp2_with fail
        refine (HH.out _ (HR.out.below HALL.out.2) (HR2.out.below HALL.out.2)).mono ?_
        rintro e w3 ⟨v3, rfl, ⟨a3, c3, rfl, _, _, hr3⟩, hb2⟩
        have hb := bt HALL.out.2 hb2
        have HRO := Lib.hid hr3
        replace HWA := Lib.hid (HWA.out.below hb2); clear hb2 hr3
        have hz : (0 : Int) + (ls.length : Int) = (ls.length : Int) := by omega
        simp only [hz]
        clear hz
        go_wp2_with fail
        refine (sameT_any _ _ _ _ xs xs _ (HR.out.below hb) HWA.out HL.out).mono ?_
        rw [sameT_rfl]
        rintro e w4 ⟨rfl, hb2⟩
        replace HRO := Lib.hid (HRO.out.below hb2)
        replace hb := bt hb hb2; clear hb2 HWA
        go_wp2_with fail
        refine (FI.out _ (HR.out.below hb) (HR2.out.below hb)).mono ?_
        rintro e w5 ⟨rfl, hb2⟩
        replace HRO := Lib.hid (HRO.out.below hb2)
        replace hb := bt hb hb2; clear hb2
        go_wp2_with fail
        refine (LA.out _ (HR.out.below hb) (HR2.out.below hb)).mono ?_
        rintro e w6 ⟨v6, rfl, ⟨a6, c6, rfl, _, _, _⟩, hb2⟩
        replace HRO := Lib.hid (HRO.out.below hb2)
        replace hb := bt hb hb2; clear hb2
        have hml : (xs.map (fun y => mv (sumOf ls y.id) y)).length = xs.length := List.length_map _
        go_wp2_with fail
        have HB1 := Lib.hid hb
        generalize hxm : xs.map (fun y => mv (sumOf ls y.id) y) = M at *
        have HXM := Lib.hid hxm
        have HML := Lib.hid hml
        clear hxm hb
        go_loopw [13, 14, 15] (fun v13 v14 v15 wr => ∃ (j : Nat), j ≤ xs.length ∧ v13 = .int .i64 j ∧ Below w6.heap.size w6 wr) (fun v13 _ _ _ => xs.length - (intOf v13).toNat)
        case atStart => exact ⟨0, by omega, rfl, Below.refl _ _⟩
        case round =>
          obtain ⟨j, hj, rfl, hbel6⟩ := hrel
          by_cases hlj : j < xs.length
          · obtain ⟨bx, ox, rfl, hblx, e0, e1, e2, e3⟩ := (HR.out.below (bt HB1.out hbel6)).item j hlj
            have hjm : j < M.length := by have := HML.out; omega
            obtain ⟨bo, oo, rfl, hblo, m0, m1, m2, m3⟩ := (HRO.out.below hbel6).item j hjm
            have hmj : M[j] = mv (sumOf ls xs[j].id) xs[j] := by
              have := HXM.out
              subst this
              simp
            rw [hmj] at m0 m1 m2 m3
            have hmy := HMAY.out _ (List.getElem_mem hlj)
            clear hmj
            generalize xs[j] = x at e0 e1 e2 e3 m0 m1 m2 m3 hmy
            obtain ⟨i1, i2, i3, i4⟩ := x
            simp only [mv] at e0 e1 e2 e3 m0 m1 m2 m3 hmy
            have hsm := fun k => sumOf_take (ls := ls) (fun l hl => (HM.out l hl).2.2) k i1
            obtain ⟨wo, rfl⟩ : ∃ wo : World, wo = wr := ⟨_, rfl⟩
            go_wp2_with fail
            have BX := one_item wo (.int .i64 i1) (.int .i64 i2) (.int .i64 i3) (.int .i64 i4) 42
            have hfz : ∀ q, (wo.alloc (.cells #[.int .i64 i1, .int .i64 i2, .int .i64 i3, .int .i64 i4] 42)).frozen? ⟨wo.heap.size, q, none⟩ = false := fun q => by simp
            have hb7 : Below w6.heap.size w6 (wo.alloc (.cells #[.int .i64 i1, .int .i64 i2, .int .i64 i3, .int .i64 i4] 42)) := hbel6.alloc hbel6.size _
            have hb8 : Below wo.heap.size wo (wo.alloc (.cells #[.int .i64 i1, .int .i64 i2, .int .i64 i3, .int .i64 i4] 42)) := (Below.refl _ _).alloc (Nat.le_refl _) _
            have h6o := hbel6.size
            generalize wo.alloc (.cells #[.int .i64 i1, .int .i64 i2, .int .i64 i3, .int .i64 i4] 42) = w0 at *
            have HBX := Lib.hid (And.intro BX (And.intro hfz (And.intro hb7 hb8)))
            clear BX hfz hb7 hb8 e0 e1 e2 e3
            have s0 := hsm 0
            go_loopw [15] (fun v15 wr => ∃ (k : Nat), k ≤ ls.length ∧ v15 = .int .i64 k ∧ OneItem wr wo.heap.size (.int .i64 i1) (.int .i64 (i2 - sumOf (ls.take k) i1)) (.int .i64 (i3 + sumOf (ls.take k) i1)) (.int .i64 i4) ∧ (∀ q, wr.frozen? ⟨wo.heap.size, q, none⟩ = false) ∧ Below w6.heap.size w6 wr ∧ Below wo.heap.size wo wr) (fun v15 _ => ls.length - (intOf v15).toNat)
            case atStart => exact ⟨0, by omega, rfl, by simpa [sumOf] using HBX.out.1, HBX.out.2.1, HBX.out.2.2.1, HBX.out.2.2.2⟩
            case round =>
              obtain ⟨k, hk, rfl, ⟨hsz, x0, x1, x2, x3⟩, hfz, hb7, hb8⟩ := hrel
              have hs1 := hsm k
              by_cases hlt : k < ls.length
              · obtain ⟨bb, off, rfl, hbl, c0', c1'⟩ := (HR2.out.below (bt HB1.out hb7)).line k hlt
                have htk : ls.take (k + 1) = ls.take k ++ [ls[k]] := by simp
                have HS := Lib.hid ((congrArg (fun l => sumOf l i1) htk).trans (sumOf_snoc (ls.take k) ls[k] i1))
                have hqb := (HM.out _ (List.getElem_mem hlt)).2.2
                clear htk
                generalize ls[k] = y at c0' c1' HS hqb
                obtain ⟨yi, yq⟩ := y
                simp only at c0' c1' HS hqb
                obtain ⟨yq1, yq2⟩ := hqb
                generalize sumOf (ls.take k) i1 = s at *
                obtain ⟨s1, s2⟩ := hs1
                have s3 : (ls.length : Int) ≤ 5 := by omega
                have HB78 := Lib.hid (And.intro hb7 hb8)
                clear hb7 hb8
                by_cases hyi : yi = i1
                · subst hyi
                  have HS2 : Hid (sumOf (ls.take (k + 1)) yi = s + yq) := by have := HS.out; rw [if_pos rfl] at this; exact Lib.hid this
                  have hbne : bb ≠ wo.heap.size := by
                    obtain ⟨b9, o9, he9, hl9, _, _⟩ := HR2.out.line k hlt
                    have : bb = b9 := by injection he9 with he9; injection he9
                    have h9 := (bt HB1.out hbel6).size
                    omega
                  go_wp2_with fail
                  (apply rg_region (by kernel_rfl) (by kernel_rfl); intro env)
                  repeat (apply rg_det rfl; (intro W K hW _ hK; obtain ⟨hc, hf⟩ := bcell hW; go_simp; first | (rw [IntWalk.i64_in]; (exact hK _ (Below.refl _ _)); omega) | exact hK _ (Below.refl _ _)); rfl)
                  (apply rg_done rfl; intro W hW hF)
                  have BXA : OneItem W wo.heap.size (.int .i64 yi) (.int .i64 (i2 - s)) (.int .i64 (i3 + s)) (.int .i64 i4) := OneItem.below ⟨hsz, x0, x1, x2, x3⟩ hW
                  have cbA := (hW.cell (p := ⟨bb, off + k * 2, none⟩) hbl).trans c0'
                  have ccA := (hW.cell (p := ⟨bb, off + k * 2 + 1, none⟩) hbl).trans c1'
                  have fzA : ∀ q, W.frozen? ⟨wo.heap.size, q, none⟩ = false := fun q => (hW.frozen (p := ⟨wo.heap.size, q, none⟩) hsz).trans (hfz q)
                  have hblA := Nat.lt_of_lt_of_le hbl hW.size
                  have HBA := Lib.hid (And.intro (bt HB78.out.1 hW) (bt HB78.out.2 hW))
                  clear hW hF c0' c1' hfz hbl HB78 x0 x1 x2 x3
                  obtain ⟨hsz, x0, x1, x2, x3⟩ := BXA
                  have c0' := cbA
                  have c1' := ccA
                  have hfz := fzA
                  have hbl := hblA
                  clear cbA ccA fzA hblA
                  go_wp2_with fail
                  (apply rg_region_tail 9 (by kernel_rfl) (by kernel_rfl) (by kernel_rfl); intro env)
                  repeat (apply rg_det rfl; (intro W K hW _ hK; obtain ⟨hc, hf⟩ := bcell hW; go_simp; first | (rw [IntWalk.i64_in]; (exact hK _ (Below.refl _ _)); omega) | exact hK _ (Below.refl _ _)); rfl)
                  (apply rg_tail; rfl; (simp only [List.drop_succ_cons, List.drop_zero]; rfl); intro W hW hF)
                  have BXB : OneItem W wo.heap.size (.int .i64 yi) (.int .i64 (i2 - s)) (.int .i64 (i3 + s)) (.int .i64 i4) := OneItem.below ⟨hsz, x0, x1, x2, x3⟩ hW
                  have cbB := (hW.cell (p := ⟨bb, off + k * 2, none⟩) hbl).trans c0'
                  have ccB := (hW.cell (p := ⟨bb, off + k * 2 + 1, none⟩) hbl).trans c1'
                  have fzB : ∀ q, W.frozen? ⟨wo.heap.size, q, none⟩ = false := fun q => (hW.frozen (p := ⟨wo.heap.size, q, none⟩) hsz).trans (hfz q)
                  have hblB := Nat.lt_of_lt_of_le hbl hW.size
                  have HBB := Lib.hid (And.intro (bt HBA.out.1 hW) (bt HBA.out.2 hW))
                  clear hW hF c0' c1' hfz hbl HBA x0 x1 x2 x3
                  obtain ⟨hsz, x0, x1, x2, x3⟩ := BXB
                  have c0' := cbB
                  have c1' := ccB
                  have hfz := fzB
                  have hbl := hblB
                  clear cbB ccB fzB hblB
                  have y1 := (OneItem.set1 ⟨hsz, x0, x1, x2, x3⟩ (.int .i64 (i2 - s - yq)))
                  have fz5 : ∀ q, (W.setCell ⟨wo.heap.size, 1, none⟩ (.int .i64 (i2 - s - yq))).frozen? ⟨wo.heap.size, q, none⟩ = false := fun q => by simpa using hfz q
                  have hbw5 : Below w6.heap.size w6 (W.setCell ⟨wo.heap.size, 1, none⟩ (.int .i64 (i2 - s - yq))) := HBB.out.1.setCell h6o _
                  have hbo5 : Below wo.heap.size wo (W.setCell ⟨wo.heap.size, 1, none⟩ (.int .i64 (i2 - s - yq))) := HBB.out.2.setCell (Nat.le_refl _) _
                  have cb5 : (W.setCell ⟨wo.heap.size, 1, none⟩ (.int .i64 (i2 - s - yq))).cell? ⟨bb, off + k * 2 + 1, none⟩ = some (.int .i64 yq) := by
                    rw [World.cell?_setCell_other _ _ _ _ (fun e => hbne (by injection e with e1; exact e1.symm))]; exact c1'
                  have hbl5 : bb < (W.setCell ⟨wo.heap.size, 1, none⟩ (.int .i64 (i2 - s - yq))).heap.size := by simpa using hbl
                  go_wp2_with fail
                  generalize W.setCell ⟨wo.heap.size, 1, none⟩ (.int .i64 (i2 - s - yq)) = W5 at *
                  clear x0 x1 x2 x3 hsz c0' c1' hfz hbl HBB
                  obtain ⟨hsz, x0, x1, x2, x3⟩ := y1
                  (apply rg_region_tail 9 (by kernel_rfl) (by kernel_rfl) (by kernel_rfl); intro env)
                  repeat (apply rg_det rfl; (intro W K hW _ hK; obtain ⟨hc, hf⟩ := bcell hW; go_simp; first | (rw [IntWalk.i64_in]; (exact hK _ (Below.refl _ _)); omega) | exact hK _ (Below.refl _ _)); rfl)
                  (apply rg_tail; rfl; (simp only [List.drop_succ_cons, List.drop_zero]; rfl); intro W hW hF)
                  have BXC : OneItem W wo.heap.size (.int .i64 yi) (.int .i64 (i2 - s - yq)) (.int .i64 (i3 + s)) (.int .i64 i4) := OneItem.below ⟨hsz, x0, x1, x2, x3⟩ hW
                  have hfz : ∀ q, W.frozen? ⟨wo.heap.size, q, none⟩ = false := fun q => (hW.frozen (p := ⟨wo.heap.size, q, none⟩) hsz).trans (fz5 q)
                  have HBC := Lib.hid (And.intro (bt hbw5 hW) (bt hbo5 hW))
                  clear hW hF fz5 hbw5 hbo5 cb5 hbl5 x0 x1 x2 x3 hsz
                  obtain ⟨hsz, x0, x1, x2, x3⟩ := BXC
                  have y2 := Lib.hid (OneItem.set2 ⟨hsz, x0, x1, x2, x3⟩ (.int .i64 (i3 + s + yq)))
                  have fz6 : ∀ q, (W.setCell ⟨wo.heap.size, 2, none⟩ (.int .i64 (i3 + s + yq))).frozen? ⟨wo.heap.size, q, none⟩ = false := fun q => by simpa using hfz q
                  have FZ6 := Lib.hid fz6
                  clear fz6
                  go_wp2_with fail
                  exact ⟨⟨k + 1, by omega, by go_num, by rw [HS2.out, show i2 - (s + yq) = i2 - s - yq by omega, show i3 + (s + yq) = i3 + s + yq by omega]; exact y2.out, FZ6.out, HBC.out.1.setCell h6o _, HBC.out.2.setCell (Nat.le_refl _) _⟩, by simp [intOf]; omega⟩
                · have HS2 : Hid (sumOf (ls.take (k + 1)) i1 = s) := by have := HS.out; rw [if_neg (fun e => hyi e.symm), Int.add_zero] at this; exact Lib.hid this
                  have hyb : (yi == i1) = false := by simpa using hyi
                  clear HS hyi
                  go_wp2_with fail
                  go_quiet (fail)
                  go_wp2_with fail
                  exact ⟨⟨k + 1, by omega, by go_num, by rw [HS2.out]; exact ⟨hsz, x0, x1, x2, x3⟩, hfz, bdrewN HB78.out.1, bdrewN HB78.out.2⟩, by simp [intOf]; omega⟩
              · obtain rfl : k = ls.length := by omega
                rw [List.take_length] at x1 x2
                have n0 := (hb8.cell (p := ⟨bo, oo + j * 4, none⟩) hblo).trans m0
                have n1 := (hb8.cell (p := ⟨bo, oo + j * 4 + 1, none⟩) hblo).trans m1
                have n2 := (hb8.cell (p := ⟨bo, oo + j * 4 + 2, none⟩) hblo).trans m2
                have n3 := (hb8.cell (p := ⟨bo, oo + j * 4 + 3, none⟩) hblo).trans m3
                have hblo2 := Nat.lt_of_lt_of_le hblo hb8.size
                have HB7 := Lib.hid hb7
                have hmlj : (j : Int) < (M.length : Int) := by omega
                clear m0 m1 m2 m3 hb7 hb8 hs1 hsm s0
                generalize sumOf ls i1 = s at *
                go_wp2_with fail
                (apply rg_region (by kernel_rfl) (by kernel_rfl); intro env)
                repeat (apply rg_det rfl; (intro W K hW _ hK; obtain ⟨hc, hf⟩ := bcell hW; go_simp; first | (rw [IntWalk.i64_in]; (exact hK _ (Below.refl _ _)); omega) | exact hK _ (Below.refl _ _)); rfl)
                (apply rg_done rfl; intro W hW hF)
                have HB9 := Lib.hid (bt HB7.out hW)
                clear hW hF n0 n1 n2 n3 x0 x1 x2 x3
                go_wp2_with fail
                exact ⟨⟨j + 1, by omega, by go_num, HB9.out⟩, by simp [intOf]; omega⟩
          · obtain rfl : j = xs.length := by omega
            have hb := bt HB1.out hbel6
            go_wp2_with fail
            refine (awake_any _).mono ?_
            rintro e w9 ⟨rfl, hb9⟩
            replace hb := bt hb hb9; clear hb9
            go_wp2_with fail
            go_ret
            exact ⟨rfl, hb⟩
end Go.Proofs.Ytfnmaemeofkagaa
