/- The texts that the law TopDecode rests on, part 5: ImgBack, AmTysJ, AmIy, AmBldB, AmTysK, AmIz, CrcPlain, CrcWalkT, CrcOnT, CrcSealT, FmPlain, AmTysL, AmFrA, AmFrB, FmLaw, FmAll, FmAll2, TopPlain, AmTysM, AmTop, Opn, AmTopE. -/
import Derived.Test.YtnlpojjfkgnhhaaGreatDoorTpD4
import Derived.RangeFuncNested
import Derived.RangeFuncBound
import Derived.RangeFuncCalls
import Derived.RangeFuncLeaves
import Derived.Shelf.Abstract
import Derived.Shelf.RegionOpen
import Derived.OwnWalkIn
import Derived.TacticsInMore
import Derived.LoopNIn
import Derived.LoopIn
open Go.Proofs.Tryz renaming underlying3 → U3, underlying4 → U4, underlying5 → U5, underlying9 → U9, underlying23 → U23, underlying24 → U24, underlying26 → U26, underlying28 → U28, underlying38 → U38, underlying44 → U44, underlying49 → U49, underlying53 → U53, underlying54 → U54, underlying55 → U55, underlying56 → U56, underlying58 → U58, underlying59 → U59, underlying60 → U60, underlying62 → U62, underlying64 → U64, underlying68 → U68, underlying74 → U74, underlying86 → U86, underlying90 → U90, underlying107 → U107, underlying162 → U162, underlying164 → U164, underlying176 → U176, underlying178 → U178, underlying186 → U186, underlying188 → U188
set_option linter.unusedVariables false
set_option linter.unusedSimpArgs false
set_option maxRecDepth 100000
set_option maxHeartbeats 1000000
namespace Go.Proofs.YtnlpojjfkgnhhaaGreatDoor
open NumP
theorem in_at {α : Type} [Inhabited α] {l : List α} {k : Nat} (h : k < l.length) : l.getD k default ∈ l := by rw [List.getD, List.getElem?_eq_getElem h]; exact List.getElem_mem _
def fitL (l : List Int) : Prop := ∀ x, x ∈ l → -9223372036854775808 ≤ x ∧ x ≤ 9223372036854775807
def nE (e : En) : List Int := [e.id, e.phase, e.quorum, e.t, e.bal, e.abal, e.seen, e.age]
structure okE (e : En) : Prop where
 p : e.payload.size ≤ 300
 a : e.acks.length ≤ 166
 n : fitL (nE e)
 f : fitL (e.acks.flatMap unAk)
structure okK (k : Kn) : Prop where
 r : k.ranges.length ≤ 500
 a : k.atts.length ≤ 500
 n : fitL [k.base]
 fr : fitL (k.ranges.flatMap unRn)
 fa : fitL (k.atts.flatMap unAt)
def okM (l : List Int) : Prop := l.length ≤ 1000 ∧ fitL l
def okD (l : List Rn) : Prop := l.length ≤ 500 ∧ fitL (l.flatMap unRn)
def okI (x : Im) : Prop := fitL [x.id, x.free, x.held, x.gone]
def okS (x : Ss) : Prop := fitL [x.client, x.seq] ∧ x.reply.size ≤ 300
def nR (r : Rep) : List Int := [r.n, r.f, r.self, r.clock, r.seq, r.floor, r.ticks, r.last.t, r.last.id, r.count]
structure okR (r : Rep) : Prop where
 n : fitL (nR r)
 el : r.entries.length ≤ 40
 e : ∀ e, e ∈ r.entries → okE e
 ol : r.own.length ≤ 500
 o : fitL (r.own.flatMap unAt)
 kl : r.known.length ≤ 9
 k : ∀ k, k ∈ r.known → okK k
 ml : r.marks.length ≤ 9
 m : ∀ l, l ∈ r.marks → okM l
 fr : okM r.fronts
 dl : r.done.length ≤ 9
 d : ∀ l, l ∈ r.done → okD l
 il : r.items.length ≤ 20
 i : ∀ x, x ∈ r.items → okI x
 sl : r.sess.length ≤ 20
 s : ∀ x, x ∈ r.sess → okS x
theorem valQ_bd {st : Qs} (h : okQ st) (k : Nat) : 0 ≤ valQ st k ∧ valQ st k ≤ 1000000 := num_nonneg (okQ_nums h k) 1000000 (by omega)
theorem fit_vals {st : Qs} (h : okQ st) (ks : List Nat) : fitL (ks.map (valQ st)) := by
 intro x hx
 obtain ⟨k, _, rfl⟩ := List.mem_map.1 hx
 have := valQ_bd h k
 omega
theorem groups_len {α : Type} (n : Nat) (of : List Int → α) (l : List Int) : (groupsL n of l).length = l.length / n := by simp [groupsL]
theorem groups_fit {α : Type} {n : Nat} {of : List Int → α} {un : α → List Int} (hu : ∀ l : List Int, l.length = n → un (of l) = l) {l : List Int} (hl : fitL l) : fitL ((groupsL n of l).flatMap un) := by
 unfold groupsL
 rw [groups_flat hu l _ (Nat.mul_div_le _ _)]
 exact fun x hx => hl x (List.mem_of_mem_take hx)
theorem text_top {r : RdS} (hr : r.ok) (most : Int) (h : 0 ≤ most) : ((rdText r most).2.size : Int) ≤ most := by
 have hb := getN_bd (bl r.s) r.at_ (by rw [bl_len]; exact hr.2.2)
 unfold rdText
 split
 · exact h
 · dsimp only
   split
   · exact h
   · rename_i h0
     have h1 := textE_zero (r := r) (most := most) (by omega)
     rw [ByteArray.size_extract]; omega
theorem qRow_ok {st : Qs} (h : okQ st) : okM (qRow st).1 := ⟨by have := row_top st.1 1000 (by omega); show (rdRow st.1 1000).2.length ≤ _; omega, row_fit h 1000⟩
theorem qGroups_len {α : Type} (n : Nat) (of : List Int → α) (st : Qs) : (qGroups n of st).1.length ≤ 1000 / n := by
 show (groupsL n of (rdRow st.1 1000).2).length ≤ _
 rw [groups_len]
 exact Nat.div_le_div_right (by have := row_top st.1 1000 (by omega); omega)
theorem qGroups_fit {α : Type} {n : Nat} {of : List Int → α} {un : α → List Int} (hu : ∀ l : List Int, l.length = n → un (of l) = l) {st : Qs} (h : okQ st) : fitL ((qGroups n of st).1.flatMap un) := groups_fit hu (row_fit h 1000)
theorem qText_ok {st : Qs} (h : okQ st) : (qText st).1.size ≤ 300 := by have := text_top h 300 (by omega); show (rdText st.1 300).2.size ≤ _; omega
theorem qEntry_ok {st : Qs} (h : okQ st) : okE (qEntry st).1 :=
 ⟨qText_ok (okQ_nums h 8), qGroups_len 6 mkAk _, fit_vals h [0, 1, 2, 3, 4, 5, 6, 7], qGroups_fit ak_back (okQ_text (okQ_nums h 8))⟩
theorem qKnown_ok {st : Qs} (h : okQ st) : okK (qKnown st).1 :=
 ⟨qGroups_len 2 mkRn _, qGroups_len 2 mkAt _, fit_vals h [0], qGroups_fit rn_back (okQ_nums h 1), qGroups_fit at_back (okQ_groups (of := mkRn) (okQ_nums h 1))⟩
theorem qDone_ok {st : Qs} (h : okQ st) : okD (qGroups 2 mkRn st).1 := ⟨qGroups_len 2 mkRn _, qGroups_fit rn_back h⟩
theorem qItem_ok {st : Qs} (h : okQ st) : okI (qItem st).1 := fit_vals h [0, 1, 2, 3]
theorem qSess_ok {st : Qs} (h : okQ st) : okS (qSess st).1 := ⟨fit_vals h [0, 1], qText_ok (okQ_nums h 2)⟩
theorem nil_no {α : Type} {p : α → Prop} : ∀ x, x ∈ ([] : List α) → p x := fun x hx => by cases hx
theorem many_len {α : Type} {pf : Qs → α × Qs} {st : Qs} (h : okQ st) : (qMany pf st).1.length ≤ 1000 := by
 have h1 := times_most (pf := pf) (qNumM st 1000).1.toNat (qNumM st 1000).2 []
 have h2 := num_nonneg h 1000 (by omega)
 rw [List.length_nil] at h1
 unfold qMany; omega
/-! ### what a whole one has -/
section
variable {st : Qs} (h : okQ st)
include h
theorem im_n : okQ (imN st).2 := okQ_num h 9
theorem im_9 : okQ (im9 st) := okQ_nums (im_n h) 9
theorem im_e : okQ (imE st).2 := times_okQ (pf := qEntry) (fun _ => entry_ok) _ _ _ (okQ_num (im_9 h) 1000)
theorem im_o : okQ (imO st).2 := okQ_groups (of := mkAt) (im_e h)
theorem im_k : okQ (imK st).2 := times_okQ (pf := qKnown) (fun _ => known_ok) _ _ _ (im_o h)
theorem im_m : okQ (imM st).2 := times_okQ (pf := qRow) (fun _ => okQ_row) _ _ _ (im_k h)
theorem im_f : okQ (imF st).2 := okQ_row (im_m h)
theorem im_d : okQ (imD st).2 := times_okQ (pf := qGroups 2 mkRn) (fun _ => okQ_groups (of := mkRn)) _ _ _ (im_f h)
theorem im_i : okQ (imI st).2 := times_okQ (pf := qItem) (fun _ hr => okQ_nums hr 4) _ _ _ (okQ_num (im_d h) 1000)
theorem nine {α : Type} {pf : Qs → α × Qs} (s2 : Qs) : (qTimes pf (imN st).1.toNat s2 []).1.length ≤ 9 := by
 have h1 := times_most (pf := pf) (imN st).1.toNat s2 []
 have h2 : 0 ≤ (imN st).1 ∧ (imN st).1 ≤ 9 := num_nonneg h 9 (by omega)
 rw [List.length_nil] at h1; omega
theorem all_okE : ∀ e, e ∈ (allQ st).entries → okE e := times_all (pf := qEntry) (fun _ => entry_ok) (fun _ => qEntry_ok) _ _ _ (okQ_num (im_9 h) 1000) nil_no
theorem all_okK : ∀ k, k ∈ (allQ st).known → okK k := times_all (pf := qKnown) (fun _ => known_ok) (fun _ => qKnown_ok) _ _ _ (im_o h) nil_no
theorem all_okM : ∀ l, l ∈ (allQ st).marks → okM l := times_all (pf := qRow) (fun _ => okQ_row) (fun _ => qRow_ok) _ _ _ (im_k h) nil_no
theorem all_okD : ∀ l, l ∈ (allQ st).done → okD l := times_all (pf := qGroups 2 mkRn) (fun _ => okQ_groups (of := mkRn)) (fun _ => qDone_ok) _ _ _ (im_f h) nil_no
theorem all_okI : ∀ x, x ∈ (allQ st).items → okI x := times_all (pf := qItem) (fun _ hr => okQ_nums hr 4) (fun _ => qItem_ok) _ _ _ (okQ_num (im_d h) 1000) nil_no
theorem all_okS : ∀ x, x ∈ (allQ st).sess → okS x := times_all (pf := qSess) (fun _ hr => okQ_text (okQ_nums hr 2)) (fun _ => qSess_ok) _ _ _ (okQ_num (im_i h) 1000) nil_no
theorem all_small : SmallR (allQ st) :=
 ⟨Nat.le_trans (qGroups_len 2 mkAt _) (by decide), Nat.le_trans (many_len (im_9 h)) (by decide), fun e he => Nat.le_trans (all_okE h e he).a (by decide), Nat.le_trans (nine h _) (by decide), fun k hk => ⟨Nat.le_trans (all_okK h k hk).r (by decide), Nat.le_trans (all_okK h k hk).a (by decide)⟩,
  Nat.le_trans (nine h _) (by decide), fun l hl => Nat.le_trans (all_okM h l hl).1 (by decide), Nat.le_trans (qRow_ok (im_m h)).1 (by decide), Nat.le_trans (nine h _) (by decide), fun l hl => Nat.le_trans (all_okD h l hl).1 (by decide),
  Nat.le_trans (many_len (im_d h)) (by decide), Nat.le_trans (many_len (im_i h)) (by decide)⟩
end
theorem ife {c : Prop} [Decidable c] {a b : Int} (h : (if c then a else b) = 0) (ha : a ≠ 0) : ¬ c ∧ b = 0 := by
 split at h
 · exact absurd h ha
 · exact ⟨by assumption, h⟩
theorem replica_few {r : Rep} (h : replicaE r = 0) : r.entries.length ≤ 40 ∧ r.items.length ≤ 20 ∧ r.sess.length ≤ 20 := by
 unfold replicaE at h
 have h1 := (ife h (by decide)).1
 simp only [Bool.or_eq_true, Bool.not_eq_true', decide_eq_false_iff_not, not_or, Decidable.not_not] at h1
 obtain ⟨hs, hv⟩ := h1
 unfold servE at hv
 have h2 := (ife hv (by decide)).1
 simp only [Bool.or_eq_true, Bool.not_eq_true', decide_eq_false_iff_not, not_or, Decidable.not_not] at h2
 unfold stateE at hs
 have h3 := (ife hs (by decide)).1
 have h4 : askP r 1 = true := by
   cases h5 : askP r 1 with
   | true => rfl
   | false => exact absurd (any_hit (n := 4) (k := 1) (p := fun k => !askP r k) (by omega) (by simp [h5])) h3
 have h6 : commandsP r = true := h4
 unfold commandsP at h6
 rw [Bool.and_eq_true, decide_eq_true_eq] at h6
 have h7 := (ife h6.1 (by decide)).1
 have h8 := (ife h2.1 (by decide)).1
 have h9 := (ife h2.2 (by decide)).1
 simp only [decide_eq_true_eq] at h7 h8 h9
 omega
theorem all_okR {st : Qs} (h : okQ st) (hz : replicaE (allQ st) = 0) : okR (allQ st) := by
 obtain ⟨h1, h2, h3⟩ := replica_few hz
 refine ⟨?_, h1, all_okE h, qGroups_len 2 mkAt _, qGroups_fit at_back (im_e h), nine h _, all_okK h, nine h _, all_okM h, qRow_ok (im_m h), nine h _, all_okD h, h2, all_okI h, h3, all_okS h⟩
 intro x hx
 rcases List.mem_cons.1 hx with rfl | hx
 · have := num_nonneg h 9 (by omega)
   show _ ≤ (qNumM st 9).1 ∧ (qNumM st 9).1 ≤ _
   omega
 · exact fit_vals (im_n h) [0, 1, 2, 3, 4, 5, 6, 7, 8] x hx
/-! ### the text stays -/
def samS {α : Type} (pf : Qs → α × Qs) : Prop := ∀ st, (pf st).2.1.s = st.1.s
theorem s_num (most : Int) : samS fun st => qNumM st most := fun st => rdNum_s st.1 most
theorem s_nums (st : Qs) : ∀ k, (numsQ st k).1.s = st.1.s
 | 0 => rfl
 | k + 1 => (rdNum_s _ _).trans (s_nums st k)
theorem s_text : samS qText := fun st => rdText_s st.1 300
theorem s_row : samS qRow := fun st => rdRow_s st.1 1000
theorem s_groups {α : Type} (n : Nat) (of : List Int → α) : samS (qGroups n of) := fun st => rdRow_s st.1 1000
theorem s_times {α : Type} {pf : Qs → α × Qs} (h : samS pf) : ∀ (n : Nat) (st : Qs) (acc : List α), (qTimes pf n st acc).2.1.s = st.1.s := by
 intro n
 induction n with
 | zero => intro st acc; rfl
 | succ n ih =>
   intro st acc
   unfold qTimes
   split
   · rfl
   · exact (ih _ _).trans (h st)
theorem s_many {α : Type} {pf : Qs → α × Qs} (h : samS pf) (st : Qs) : (qMany pf st).2.1.s = st.1.s := (s_times h _ _ _).trans (s_num 1000 st)
theorem s_entry : samS qEntry := fun st => (s_groups 6 mkAk _).trans ((s_text _).trans (s_nums st 8))
theorem s_known : samS qKnown := fun st => (s_groups 2 mkAt _).trans ((s_groups 2 mkRn _).trans (s_nums st 1))
theorem s_sess : samS qSess := fun st => (s_text _).trans (s_nums st 2)
theorem s_all (st : Qs) : (imS st).2.1.s = st.1.s :=
 (s_many s_sess _).trans ((s_many (pf := qItem) (fun st => s_nums st 4) _).trans ((s_times (s_groups 2 mkRn) _ _ _).trans ((s_row _).trans ((s_times s_row _ _ _).trans ((s_times s_known _ _ _).trans ((s_groups 2 mkAt _).trans ((s_many s_entry _).trans ((s_nums _ 9).trans (s_num 9 st)))))))))
/-! ### a replica is taken -/
def imSt (s : ByteArray) : Qs := (RdS.new s, false)
def imEnd (s : ByteArray) : RdS := rdEnd (imS (imSt s)).2.1
theorem imSt_ok {s : ByteArray} (hs : s.size ≤ 1000000) : okQ (imSt s) := rd_new_ok hs
theorem img_only {s : ByteArray} (hs : s.size ≤ 1000000) (h1 : (imEnd s).e = 0) (h2 : (imS (imSt s)).2.2 = false) : (layI (allQ (imSt s))).e = 0 ∧ (layI (allQ (imSt s))).s = bl s := by
 obtain ⟨hk, hu⟩ := all_up (imSt_ok hs) (fun _ => upto_new s)
 obtain ⟨e1, e2⟩ := upto_end hk (hu h2) h1
 refine ⟨e2, ?_⟩
 unfold WrS.out at e1
 rw [if_pos e2, s_all] at e1
 rw [← bl_bs (layI (allQ (imSt s))).s, e1]; rfl
end Go.Proofs.YtnlpojjfkgnhhaaGreatDoor
namespace Go.Proofs.YtnlpojjfkgnhhaaGreatDoor
open Go.RowKit
theorem cf44 : ∀ (vs : Array Value) (W : World), (callFunc 44 vs).run Tryz.prog W = .ok (.enter 44 vs) W := fun _ _ => by rfl
theorem cf45 : ∀ (vs : Array Value) (W : World), (callFunc 45 vs).run Tryz.prog W = .ok (.enter 45 vs) W := fun _ _ => by rfl
theorem cf89 : ∀ (vs : Array Value) (W : World), (callFunc 89 vs).run Tryz.prog W = .ok (.enter 89 vs) W := fun _ _ => by rfl
theorem cf90 : ∀ (vs : Array Value) (W : World), (callFunc 90 vs).run Tryz.prog W = .ok (.enter 90 vs) W := fun _ _ => by rfl
theorem cf91 : ∀ (vs : Array Value) (W : World), (callFunc 91 vs).run Tryz.prog W = .ok (.enter 91 vs) W := fun _ _ => by rfl
theorem cf92 : ∀ (vs : Array Value) (W : World), (callFunc 92 vs).run Tryz.prog W = .ok (.enter 92 vs) W := fun _ _ => by rfl

end Go.Proofs.YtnlpojjfkgnhhaaGreatDoor
namespace Go.Proofs.YtnlpojjfkgnhhaaGreatDoor
open Go.RowKit
open NumP
theorem wGroups_len {α : Type} {un : α → List Int} {c : Nat} (hun : ∀ x, (un x).length = c) (w : WrS) (l : List α) : (wGroups un w l).s.length ≤ w.s.length + 9 * (c * l.length + 1) := by
 have := wrRow_len w (l.flatMap un)
 rw [flat_lenc hun] at this; exact this
theorem wEntry_len (e : En) (h : okE e) (w : WrS) : (wEntry w e).s.length ≤ w.s.length + 10000 := by
 have h1 := wrNums_len (nE e) w
 have h2 := wrText_len (wrNums w (nE e)) e.payload
 have h3 := wGroups_len (un := unAk) (c := 6) (fun _ => rfl) (wrText (wrNums w (nE e)) e.payload) e.acks
 have h4 := h.p
 have h5 := h.a
 have h6 : (nE e).length = 8 := rfl
 show (wGroups unAk (wrText (wrNums w (nE e)) e.payload) e.acks).s.length ≤ _
 omega
theorem wKnown_len (k : Kn) (h : okK k) (w : WrS) : (wKnown w k).s.length ≤ w.s.length + 20000 := by
 have h1 := wrNums_len [k.base] w
 have h2 := wGroups_len (un := unRn) (c := 2) (fun _ => rfl) (wrNums w [k.base]) k.ranges
 have h3 := wGroups_len (un := unAt) (c := 2) (fun _ => rfl) (wGroups unRn (wrNums w [k.base]) k.ranges) k.atts
 have h4 := h.r
 have h5 := h.a
 have h6 : [k.base].length = 1 := rfl
 show (wGroups unAt (wGroups unRn (wrNums w [k.base]) k.ranges) k.atts).s.length ≤ _
 omega
theorem wRow_len2 (l : List Int) (h : okM l) (w : WrS) : (wrRow w l).s.length ≤ w.s.length + 10000 := by
 have := wrRow_len w l
 have := h.1
 omega
theorem wDone_len (l : List Rn) (h : okD l) (w : WrS) : (wGroups unRn w l).s.length ≤ w.s.length + 10000 := by
 have := wGroups_len (un := unRn) (c := 2) (fun _ => rfl) w l
 have := h.1
 omega
theorem wItem_len (x : Im) (w : WrS) : (wItem w x).s.length ≤ w.s.length + 40 := Nat.le_trans (wrNums_len [x.id, x.free, x.held, x.gone] w) (by simp)
theorem wSess_len (x : Ss) (h : okS x) (w : WrS) : (wSess w x).s.length ≤ w.s.length + 400 := by
 have h1 := wrNums_len [x.client, x.seq] w
 have h2 := wrText_len (wrNums w [x.client, x.seq]) x.reply
 have h3 := h.2
 have h4 : [x.client, x.seq].length = 2 := rfl
 show (wrText (wrNums w [x.client, x.seq]) x.reply).s.length ≤ _
 omega
theorem commands_w (w : WrS) (l : List En) (hl : l.length ≤ 40) (hw : w.s.length ≤ 300000) (he : ∀ e, e ∈ l → okE e) : FnM Tryz.prog 43 (fun i => [.box i 0, .sl (l.map aEn)]) (aW w) (.tup []) (aW (l.foldl wEntry (wrNums w [(l.length : Int)]))) := by
 have hw0 := wrNums_len [((l.map aEn).length : Int)] w
 have hw1 : [((l.map aEn).length : Int)].length = 1 := rfl
 refine FnM.of Tryz.func43 rfl rfl (fun i => by simp) (fun H i m hHm hi hG => ?_)
 have hN : NoH H.length (.tup []) := (by simp)
 refine sr fun _ => ?_
 refine mv ?_
 refine mv ?_
 refine ρq U53 ?_
 refine ρy U24 sz3 zv3 ?_
 refine ARun.callO hi hG rfl rfl rfl rfl cf26 (ep rfl) (.cons (ep rfl) (.cons (ep rfl) .nil)) rfl (nums_w w [((l.map aEn).length : Int)] (by simp) (by omega) (fit_one (by rw [List.length_map]; omega)) _ _ (atO hi)) (by first | exact noH_aW _ _ | (simp; done) | (simp [cAV]; done)) optN (fun hG => ?_)
 refine ez (sr fun _ => ?_)
 refine mv ?_
 refine ρq U53 ?_
 refine mv ?_
 refine ez ?_
 refine AWP.block ?_
 refine AWP.roundsO (fun k => k ≤ l.length) (fun k => [(0, .box i 0), (11, .sl (l.map aEn)), (12, .int .i64 ((l.map aEn).length : Int)), (13, .int .i64 (k : Int))]) (fun k => H.set i (.box (aW ((l.take k).foldl wEntry (wrNums w [((l.map aEn).length : Int)]))))) (fun k => []) (fun k => l.length - k) 0 0 (Nat.zero_le _) (by repeat (first | exact .nil | refine .cons rfl ?_)) rfl rfl (fun _ => rfl) (fun _ => ⟨by simp [AV.cells, aIn, aOut, aAt, aMg, aEv, aRc, aRn, aAk, aKn, aEn, aQu, aIm, aSs, aRep]; try omega, by simp⟩) (fun k hI hG => ?_)
 show AWP _ _ _ _ _ [(0, .box i 0), (11, .sl (l.map aEn)), (12, .int .i64 ((l.map aEn).length : Int)), (13, .int .i64 (k : Int))] (H.set i (.box (aW ((l.take k).foldl wEntry (wrNums w [((l.map aEn).length : Int)]))))) []
 replace hG : GOK _ (H.set i (.box (aW ((l.take k).foldl wEntry (wrNums w [((l.map aEn).length : Int)]))))) := hG
 have hk := hI
 have hb := fold_len (c := 10000) (wf := wEntry) (wrNums w [((l.map aEn).length : Int)]) (l.take k) (fun x hx w' => wEntry_len x (he x (List.mem_of_mem_take hx)) w')
 have hb2 : (l.take k).length ≤ l.length := by rw [List.length_take]; omega
 refine sr fun _ => ?_
 refine ρ6 ?_
 refine ez ?_
 refine AWP.seq ?_
 refine ρo (fun h0 => ?_) (fun h0 => ?_)
 · try simp [-List.getD_eq_getElem?_getD] at h0
   have hX : okE (l.getD k default) := he _ (in_at h0)
   have a1 := wrNums_len (nE (l.getD k default)) ((l.take k).foldl wEntry (wrNums w [((l.map aEn).length : Int)]))
   have a2 : (nE (l.getD k default)).length = 8 := rfl
   have a3 := wrText_len (wrNums ((l.take k).foldl wEntry (wrNums w [((l.map aEn).length : Int)])) (nE (l.getD k default))) (l.getD k default).payload
   have a4 := hX.p
   refine AWP.skip (thenA_n ?_)
   refine AWP.seq (AWP.block (sr fun _ => ?_))
   first | refine ρa U53 sz178 ?_ | refine ρ7 U53 sz178 ?_
   refine ρl U178 sz178 ?_
   refine ρp (j := 0) zv178 ?_
   refine ρ8 sz178 ?_
   refine ez ?_
   refine AWP.seq ?_
   refine AWP.frzBox 5 hG rfl rfl rfl ?_
   refine AWP.region (fun _ => ?_)
   refine mv ?_
   refine ρ0 U178 sz3 ?_
   refine ρ2 U3 ?_
   refine ρ0 U178 sz3 ?_
   refine ρ2 U3 ?_
   refine ρ0 U178 sz3 ?_
   refine ρ2 U3 ?_
   refine ρ0 U178 sz3 ?_
   refine ρ2 U3 ?_
   refine ρ0 U178 sz3 ?_
   refine ρ2 U3 ?_
   refine ρ0 U178 sz3 ?_
   refine ρ2 U3 ?_
   refine ρ0 U178 sz3 ?_
   refine ρ2 U3 ?_
   refine ρ0 U178 sz3 ?_
   refine ρ2 U3 ?_
   refine ARun.buildSl rfl rfl rfl rfl U24 sz3 zv3 rfl (by decide) (.cons (ep rfl) (.cons (ep rfl) (.cons (ep rfl) (.cons (ep rfl) (.cons (ep rfl) (.cons (ep rfl) (.cons (ep rfl) (.cons (ep rfl) .nil)))))))) rfl rfl rfl rfl (by decide) (show _ = some [.int .i64 (l.getD k default).id, .int .i64 (l.getD k default).phase, .int .i64 (l.getD k default).quorum, .int .i64 (l.getD k default).t, .int .i64 (l.getD k default).bal, .int .i64 (l.getD k default).abal, .int .i64 (l.getD k default).seen, .int .i64 (l.getD k default).age] from by kernel_rfl) rfl optN ?_
   refine ARun.callO hi hG rfl rfl rfl rfl cf26 (ep rfl) (.cons (ep rfl) (.cons (ep rfl) .nil)) rfl (nums_w ((l.take k).foldl wEntry (wrNums w [((l.map aEn).length : Int)])) (nE (l.getD k default)) (by simp [nE]) (by omega) hX.n _ _ (atO hi)) (by first | exact noH_aW _ _ | (simp; done) | (simp [cAV]; done)) optN (fun hG => ?_)
   refine ez (sr fun _ => ?_)
   refine mv ?_
   refine ρ0 U178 sz9 ?_
   refine ρ2 U9 ?_
   refine ARun.callO hi hG rfl rfl rfl rfl cf27 (ep rfl) (.cons (ep rfl) (.cons (ep rfl) .nil)) rfl (text_w (wrNums ((l.take k).foldl wEntry (wrNums w [((l.map aEn).length : Int)])) (nE (l.getD k default))) (l.getD k default).payload (by have := hX.p; omega) (by omega) _ _ (atO hi)) (by first | exact noH_aW _ _ | (simp; done) | (simp [cAV]; done)) optN (fun hG => ?_)
   refine ez ?_
   refine AWP.region (fun _ => ?_)
   refine mv ?_
   refine ρ0 U178 sz176 ?_
   refine ρ2 U176 ?_
   refine ARun.callO hi hG rfl rfl rfl rfl cf89 (ep rfl) (.cons (ep rfl) (.cons (ep rfl) (.cons (ep rfl) .nil))) rfl (rowAk_w 90 6 unAk (wrText (wrNums ((l.take k).foldl wEntry (wrNums w [((l.map aEn).length : Int)])) (nE (l.getD k default))) (l.getD k default).payload) (l.getD k default).acks (by have := hX.a; omega) (by omega) (fun _ => rfl) (by omega) hX.f cf90 acksI_fn _ _ (atO hi)) (by first | exact noH_aW _ _ | (simp; done) | (simp [cAV]; done)) optN (fun hG => ?_)
   refine ⟨_, _, rfl, hG, ?_⟩
   refine blockA_n (thenA_n ?_)
   refine AWP.region (fun _ => ?_)
   first | refine ρd ?_ | refine ρg ?_
   refine mv ?_
   refine ⟨_, _, rfl, hG, ?_⟩
   refine thenA_n ⟨k + 1, _, ?_, ?_, ?_, rfl, ?_⟩
   · rw [fold_succ wEntry _ _ _ (by simpa using h0)]
     try rfl
   · omega
   · repeat (first | exact .nil | refine .cons rfl ?_)
   omega
 simp at h0
 obtain rfl : k = l.length := by omega
 rw [List.take_length] at hG ⊢
 refine AWP.exit ?_
 refine thenA_x ?_
 refine thenA_x ?_
 refine blockA_h ?_
 refine endF.toG (congrArg (fun c => H.set i (AO.box c)) (by rw [List.length_map])) ?_
 refine endF.many (.inl rfl) (rs := []) rfl .nil (by simp) ?_ (by rw [List.length_set]; exact hN)
 rfl
theorem hears_w (w : WrS) (r : Rep) (hw : w.s.length ≤ 430000) (hk1 : r.known.length ≤ 9) (hk2 : ∀ k, k ∈ r.known → okK k) (hk3 : r.marks.length ≤ 9) (hk4 : ∀ l, l ∈ r.marks → okM l) (hk5 : okM r.fronts) (hk6 : r.done.length ≤ 9) (hk7 : ∀ l, l ∈ r.done → okD l) : FnM Tryz.prog 46 (fun i => [.box i 0, aRep r]) (aW w) (.tup []) (aW (r.done.foldl (wGroups unRn) (wrRow (r.marks.foldl wrRow (r.known.foldl wKnown w)) r.fronts))) := by
 have b4 := fold_len (c := 20000) (wf := wKnown) w r.known (fun x hx w' => wKnown_len x (hk2 x hx) w')
 have b5 := fold_len (c := 10000) (wf := wrRow) (r.known.foldl wKnown w) r.marks (fun x hx w' => wRow_len2 x (hk4 x hx) w')
 have b6 := wRow_len2 r.fronts hk5 (r.marks.foldl wrRow (r.known.foldl wKnown w))
 refine FnM.of Tryz.func46 rfl rfl (fun i => by simp) (fun H i m hHm hi hG => ?_)
 have hN : NoH H.length (.tup []) := (by simp)
 refine sr fun _ => ?_
 refine ρt ?_
 refine ez ?_
 refine AWP.seq (sr fun _ => ?_)
 refine ρ0 U64 sz54 ?_
 refine ρ2 U54 ?_
 refine ρq U54 ?_
 refine mv ?_
 refine ez ?_
 refine AWP.block ?_
 refine AWP.roundsO (fun k => k ≤ r.known.length) (fun k => [(0, .box i 0), (3, .pe [.int .i64 r.n, .int .i64 r.f, .int .i64 r.self, .int .i64 r.clock, .int .i64 r.seq, .int .i64 r.floor, .int .i64 r.ticks, .sl (r.entries.map aEn), .sl (r.own.map aAt), .sl (r.known.map aKn), .sl (r.marks.map fun l => AV.sl (l.map (AV.int .i64))), .sl (r.fronts.map (AV.int .i64)), .sl (r.done.map fun l => AV.sl (l.map aRn)), .int .i64 r.last.t, .int .i64 r.last.id, .int .i64 r.count, .sl (r.items.map aIm), .sl (r.sess.map aSs)]), (11, .sl (r.known.map aKn)), (12, .int .i64 ((r.known.map aKn).length : Int)), (13, .int .i64 (k : Int))]) (fun k => H.set i (.box (aW ((r.known.take k).foldl wKnown w)))) (fun k => []) (fun k => r.known.length - k) 0 0 (Nat.zero_le _) (by repeat (first | exact .nil | refine .cons rfl ?_)) rfl rfl (fun _ => rfl) (fun _ => ⟨by simp [AV.cells, aIn, aOut, aAt, aMg, aEv, aRc, aRn, aAk, aKn, aEn, aQu, aIm, aSs, aRep]; try omega, by simp⟩) (fun k hI hG => ?_)
 show AWP _ _ _ _ _ [(0, .box i 0), (3, .pe [.int .i64 r.n, .int .i64 r.f, .int .i64 r.self, .int .i64 r.clock, .int .i64 r.seq, .int .i64 r.floor, .int .i64 r.ticks, .sl (r.entries.map aEn), .sl (r.own.map aAt), .sl (r.known.map aKn), .sl (r.marks.map fun l => AV.sl (l.map (AV.int .i64))), .sl (r.fronts.map (AV.int .i64)), .sl (r.done.map fun l => AV.sl (l.map aRn)), .int .i64 r.last.t, .int .i64 r.last.id, .int .i64 r.count, .sl (r.items.map aIm), .sl (r.sess.map aSs)]), (11, .sl (r.known.map aKn)), (12, .int .i64 ((r.known.map aKn).length : Int)), (13, .int .i64 (k : Int))] (H.set i (.box (aW ((r.known.take k).foldl wKnown w)))) []
 replace hG : GOK _ (H.set i (.box (aW ((r.known.take k).foldl wKnown w)))) := hG
 have hk := hI
 have hb := fold_len (c := 20000) (wf := wKnown) w (r.known.take k) (fun x hx w' => wKnown_len x (hk2 x (List.mem_of_mem_take hx)) w')
 have hb2 : (r.known.take k).length ≤ r.known.length := by rw [List.length_take]; omega
 refine sr fun _ => ?_
 refine ρ6 ?_
 refine ez ?_
 refine AWP.seq ?_
 refine ρo (fun h0 => ?_) (fun h0 => ?_)
 · try simp [-List.getD_eq_getElem?_getD] at h0
   have hX : okK (r.known.getD k default) := hk2 _ (in_at h0)
   have a1 := wrNums_len [(r.known.getD k default).base] ((r.known.take k).foldl wKnown w)
   have a2 : [(r.known.getD k default).base].length = 1 := rfl
   have a3 := wGroups_len (un := unRn) (c := 2) (fun _ => rfl) (wrNums ((r.known.take k).foldl wKnown w) [(r.known.getD k default).base]) (r.known.getD k default).ranges
   have a4 := hX.r
   refine AWP.skip (thenA_n ?_)
   refine AWP.seq (AWP.block (sr fun _ => ?_))
   first | refine ρa U54 sz164 ?_ | refine ρ7 U54 sz164 ?_
   refine ρl U164 sz164 ?_
   refine ρp (j := 0) zv164 ?_
   refine ρ8 sz164 ?_
   refine ez ?_
   refine AWP.seq ?_
   refine AWP.frzBox 5 hG rfl rfl rfl ?_
   refine AWP.region (fun _ => ?_)
   refine mv ?_
   refine ρ0 U164 sz3 ?_
   refine ρ2 U3 ?_
   refine ρy U24 sz3 zv3 ?_
   refine ARun.callO hi hG rfl rfl rfl rfl cf26 (ep rfl) (.cons (ep rfl) (.cons (ep rfl) .nil)) rfl (nums_w ((r.known.take k).foldl wKnown w) [(r.known.getD k default).base] (by simp) (by omega) hX.n _ _ (atO hi)) (by first | exact noH_aW _ _ | (simp; done) | (simp [cAV]; done)) optN (fun hG => ?_)
   refine ez (sr fun _ => ?_)
   refine mv ?_
   refine ρ0 U164 sz162 ?_
   refine ρ2 U162 ?_
   refine ARun.callO hi hG rfl rfl rfl rfl cf91 (ep rfl) (.cons (ep rfl) (.cons (ep rfl) (.cons (ep rfl) .nil))) rfl (rowRn_w 92 2 unRn (wrNums ((r.known.take k).foldl wKnown w) [(r.known.getD k default).base]) (r.known.getD k default).ranges (by have := hX.r; omega) (by omega) (fun _ => rfl) (by omega) hX.fr cf92 spanI_fn _ _ (atO hi)) (by first | exact noH_aW _ _ | (simp; done) | (simp [cAV]; done)) optN (fun hG => ?_)
   refine ez ?_
   refine AWP.region (fun _ => ?_)
   refine mv ?_
   refine ρ0 U164 sz23 ?_
   refine ρ2 U23 ?_
   refine ARun.callO hi hG rfl rfl rfl rfl cf44 (ep rfl) (.cons (ep rfl) (.cons (ep rfl) (.cons (ep rfl) .nil))) rfl (rowAt_w 45 2 unAt (wGroups unRn (wrNums ((r.known.take k).foldl wKnown w) [(r.known.getD k default).base]) (r.known.getD k default).ranges) (r.known.getD k default).atts (by have := hX.a; omega) (by omega) (fun _ => rfl) (by omega) hX.fa cf45 attI_fn _ _ (atO hi)) (by first | exact noH_aW _ _ | (simp; done) | (simp [cAV]; done)) optN (fun hG => ?_)
   refine ⟨_, _, rfl, hG, ?_⟩
   refine blockA_n (thenA_n ?_)
   refine AWP.region (fun _ => ?_)
   first | refine ρd ?_ | refine ρg ?_
   refine mv ?_
   refine ⟨_, _, rfl, hG, ?_⟩
   refine thenA_n ⟨k + 1, _, ?_, ?_, ?_, rfl, ?_⟩
   · rw [fold_succ wKnown _ _ _ (by simpa using h0)]
     try rfl
   · omega
   · repeat (first | exact .nil | refine .cons rfl ?_)
   omega
 simp at h0
 obtain rfl : k = r.known.length := by omega
 rw [List.take_length] at hG ⊢
 refine AWP.exit ?_
 refine thenA_x ?_
 refine thenA_x ?_
 refine blockA_h ?_
 refine thenA_n (AWP.seq ?_)
 refine sr fun _ => ?_
 refine ρ0 U64 sz55 ?_
 refine ρ2 U55 ?_
 refine ρq U55 ?_
 refine mv ?_
 refine ez ?_
 refine AWP.block ?_
 refine AWP.roundsO (fun k => k ≤ r.marks.length) (fun k => [(0, .box i 0), (3, .pe [.int .i64 r.n, .int .i64 r.f, .int .i64 r.self, .int .i64 r.clock, .int .i64 r.seq, .int .i64 r.floor, .int .i64 r.ticks, .sl (r.entries.map aEn), .sl (r.own.map aAt), .sl (r.known.map aKn), .sl (r.marks.map fun l => AV.sl (l.map (AV.int .i64))), .sl (r.fronts.map (AV.int .i64)), .sl (r.done.map fun l => AV.sl (l.map aRn)), .int .i64 r.last.t, .int .i64 r.last.id, .int .i64 r.count, .sl (r.items.map aIm), .sl (r.sess.map aSs)]), (32, .sl (r.marks.map fun l => AV.sl (l.map (AV.int .i64)))), (33, .int .i64 ((r.marks.map fun l => AV.sl (l.map (AV.int .i64))).length : Int)), (34, .int .i64 (k : Int))]) (fun k => H.set i (.box (aW ((r.marks.take k).foldl wrRow (r.known.foldl wKnown w))))) (fun k => []) (fun k => r.marks.length - k) 0 0 (Nat.zero_le _) (by repeat (first | exact .nil | refine .cons rfl ?_)) rfl rfl (fun _ => rfl) (fun _ => ⟨by simp [AV.cells, aIn, aOut, aAt, aMg, aEv, aRc, aRn, aAk, aKn, aEn, aQu, aIm, aSs, aRep]; try omega, by simp⟩) (fun k hI hG => ?_)
 show AWP _ _ _ _ _ [(0, .box i 0), (3, .pe [.int .i64 r.n, .int .i64 r.f, .int .i64 r.self, .int .i64 r.clock, .int .i64 r.seq, .int .i64 r.floor, .int .i64 r.ticks, .sl (r.entries.map aEn), .sl (r.own.map aAt), .sl (r.known.map aKn), .sl (r.marks.map fun l => AV.sl (l.map (AV.int .i64))), .sl (r.fronts.map (AV.int .i64)), .sl (r.done.map fun l => AV.sl (l.map aRn)), .int .i64 r.last.t, .int .i64 r.last.id, .int .i64 r.count, .sl (r.items.map aIm), .sl (r.sess.map aSs)]), (32, .sl (r.marks.map fun l => AV.sl (l.map (AV.int .i64)))), (33, .int .i64 ((r.marks.map fun l => AV.sl (l.map (AV.int .i64))).length : Int)), (34, .int .i64 (k : Int))] (H.set i (.box (aW ((r.marks.take k).foldl wrRow (r.known.foldl wKnown w))))) []
 replace hG : GOK _ (H.set i (.box (aW ((r.marks.take k).foldl wrRow (r.known.foldl wKnown w))))) := hG
 have hk := hI
 have hb := fold_len (c := 10000) (wf := wrRow) (r.known.foldl wKnown w) (r.marks.take k) (fun x hx w' => wRow_len2 x (hk4 x (List.mem_of_mem_take hx)) w')
 have hb2 : (r.marks.take k).length ≤ r.marks.length := by rw [List.length_take]; omega
 refine sr fun _ => ?_
 refine ρ6 ?_
 refine ez ?_
 refine AWP.seq ?_
 refine ρo (fun h1 => ?_) (fun h1 => ?_)
 · try simp [-List.getD_eq_getElem?_getD] at h1
   have hY : okM (r.marks.getD k default) := hk4 _ (in_at h1)
   refine AWP.skip (thenA_n ?_)
   refine AWP.seq (AWP.block (sr fun _ => ?_))
   first | refine ρa U55 sz24 ?_ | refine ρ7 U55 sz24 ?_
   refine ρ2 U24 ?_
   refine mz ?_
   refine AWP.region (fun _ => ?_)
   refine mv ?_
   refine mv ?_
   refine ARun.callO hi hG rfl rfl rfl rfl cf28 (ep rfl) (.cons (ep rfl) (.cons (ep rfl) .nil)) rfl (row_w ((r.marks.take k).foldl wrRow (r.known.foldl wKnown w)) (r.marks.getD k default) (by have := hY.1; omega) (by omega) hY.2 _ _ (atO hi)) (by first | exact noH_aW _ _ | (simp; done) | (simp [cAV]; done)) optN (fun hG => ?_)
   refine ⟨_, _, rfl, hG, ?_⟩
   refine blockA_n (thenA_n ?_)
   refine AWP.region (fun _ => ?_)
   first | refine ρd ?_ | refine ρg ?_
   refine mv ?_
   refine ⟨_, _, rfl, hG, ?_⟩
   refine thenA_n ⟨k + 1, _, ?_, ?_, ?_, rfl, ?_⟩
   · rw [fold_succ wrRow _ _ _ (by simpa using h1)]
     try rfl
   · omega
   · repeat (first | exact .nil | refine .cons rfl ?_)
   omega
 simp at h1
 obtain rfl : k = r.marks.length := by omega
 rw [List.take_length] at hG ⊢
 refine AWP.exit ?_
 refine thenA_x ?_
 refine thenA_x ?_
 refine blockA_h ?_
 refine thenA_n (sr fun _ => ?_)
 refine mv ?_
 refine ρ0 U64 sz24 ?_
 refine ρ2 U24 ?_
 refine ARun.callO hi hG rfl rfl rfl rfl cf28 (ep rfl) (.cons (ep rfl) (.cons (ep rfl) .nil)) rfl (row_w (r.marks.foldl wrRow (r.known.foldl wKnown w)) r.fronts (by have := hk5.1; omega) (by omega) hk5.2 _ _ (atO hi)) (by first | exact noH_aW _ _ | (simp; done) | (simp [cAV]; done)) optN (fun hG => ?_)
 refine ez (sr fun _ => ?_)
 refine ρ0 U64 sz56 ?_
 refine ρ2 U56 ?_
 refine ρq U56 ?_
 refine mv ?_
 refine ez ?_
 refine AWP.block ?_
 refine AWP.roundsO (fun k => k ≤ r.done.length) (fun k => [(0, .box i 0), (3, .pe [.int .i64 r.n, .int .i64 r.f, .int .i64 r.self, .int .i64 r.clock, .int .i64 r.seq, .int .i64 r.floor, .int .i64 r.ticks, .sl (r.entries.map aEn), .sl (r.own.map aAt), .sl (r.known.map aKn), .sl (r.marks.map fun l => AV.sl (l.map (AV.int .i64))), .sl (r.fronts.map (AV.int .i64)), .sl (r.done.map fun l => AV.sl (l.map aRn)), .int .i64 r.last.t, .int .i64 r.last.id, .int .i64 r.count, .sl (r.items.map aIm), .sl (r.sess.map aSs)]), (47, .sl (r.done.map fun l => AV.sl (l.map aRn))), (48, .int .i64 ((r.done.map fun l => AV.sl (l.map aRn)).length : Int)), (49, .int .i64 (k : Int))]) (fun k => H.set i (.box (aW ((r.done.take k).foldl (wGroups unRn) (wrRow (r.marks.foldl wrRow (r.known.foldl wKnown w)) r.fronts))))) (fun k => []) (fun k => r.done.length - k) 0 0 (Nat.zero_le _) (by repeat (first | exact .nil | refine .cons rfl ?_)) rfl rfl (fun _ => rfl) (fun _ => ⟨by simp [AV.cells, aIn, aOut, aAt, aMg, aEv, aRc, aRn, aAk, aKn, aEn, aQu, aIm, aSs, aRep]; try omega, by simp⟩) (fun k hI hG => ?_)
 show AWP _ _ _ _ _ [(0, .box i 0), (3, .pe [.int .i64 r.n, .int .i64 r.f, .int .i64 r.self, .int .i64 r.clock, .int .i64 r.seq, .int .i64 r.floor, .int .i64 r.ticks, .sl (r.entries.map aEn), .sl (r.own.map aAt), .sl (r.known.map aKn), .sl (r.marks.map fun l => AV.sl (l.map (AV.int .i64))), .sl (r.fronts.map (AV.int .i64)), .sl (r.done.map fun l => AV.sl (l.map aRn)), .int .i64 r.last.t, .int .i64 r.last.id, .int .i64 r.count, .sl (r.items.map aIm), .sl (r.sess.map aSs)]), (47, .sl (r.done.map fun l => AV.sl (l.map aRn))), (48, .int .i64 ((r.done.map fun l => AV.sl (l.map aRn)).length : Int)), (49, .int .i64 (k : Int))] (H.set i (.box (aW ((r.done.take k).foldl (wGroups unRn) (wrRow (r.marks.foldl wrRow (r.known.foldl wKnown w)) r.fronts))))) []
 replace hG : GOK _ (H.set i (.box (aW ((r.done.take k).foldl (wGroups unRn) (wrRow (r.marks.foldl wrRow (r.known.foldl wKnown w)) r.fronts))))) := hG
 have hk := hI
 have hb := fold_len (c := 10000) (wf := (wGroups unRn)) (wrRow (r.marks.foldl wrRow (r.known.foldl wKnown w)) r.fronts) (r.done.take k) (fun x hx w' => wDone_len x (hk7 x (List.mem_of_mem_take hx)) w')
 have hb2 : (r.done.take k).length ≤ r.done.length := by rw [List.length_take]; omega
 refine sr fun _ => ?_
 refine ρ6 ?_
 refine ez ?_
 refine AWP.seq ?_
 refine ρo (fun h2 => ?_) (fun h2 => ?_)
 · try simp [-List.getD_eq_getElem?_getD] at h2
   have hZ : okD (r.done.getD k default) := hk7 _ (in_at h2)
   refine AWP.skip (thenA_n ?_)
   refine AWP.seq (AWP.block (sr fun _ => ?_))
   first | refine ρa U56 sz162 ?_ | refine ρ7 U56 sz162 ?_
   refine ρ2 U162 ?_
   refine mz ?_
   refine AWP.region (fun _ => ?_)
   refine mv ?_
   refine mv ?_
   refine ARun.callO hi hG rfl rfl rfl rfl cf91 (ep rfl) (.cons (ep rfl) (.cons (ep rfl) (.cons (ep rfl) .nil))) rfl (rowRn_w 92 2 unRn ((r.done.take k).foldl (wGroups unRn) (wrRow (r.marks.foldl wrRow (r.known.foldl wKnown w)) r.fronts)) (r.done.getD k default) (by have := hZ.1; omega) (by omega) (fun _ => rfl) (by omega) hZ.2 cf92 spanI_fn _ _ (atO hi)) (by first | exact noH_aW _ _ | (simp; done) | (simp [cAV]; done)) optN (fun hG => ?_)
   refine ⟨_, _, rfl, hG, ?_⟩
   refine blockA_n (thenA_n ?_)
   refine AWP.region (fun _ => ?_)
   first | refine ρd ?_ | refine ρg ?_
   refine mv ?_
   refine ⟨_, _, rfl, hG, ?_⟩
   refine thenA_n ⟨k + 1, _, ?_, ?_, ?_, rfl, ?_⟩
   · rw [fold_succ (wGroups unRn) _ _ _ (by simpa using h2)]
     try rfl
   · omega
   · repeat (first | exact .nil | refine .cons rfl ?_)
   omega
 simp at h2
 obtain rfl : k = r.done.length := by omega
 rw [List.take_length] at hG ⊢
 refine AWP.exit ?_
 refine thenA_x ?_
 refine thenA_x ?_
 refine blockA_h ?_
 refine endF.toG (congrArg (fun c => H.set i (AO.box c)) rfl) ?_
 refine endF.many (.inl rfl) (rs := []) rfl .nil (by simp) ?_ (by rw [List.length_set]; exact hN)
 rfl
theorem store_w (w : WrS) (r : Rep) (hw : w.s.length ≤ 900000) (hk1 : r.items.length ≤ 20) (hk2 : ∀ x, x ∈ r.items → okI x) (hk3 : r.sess.length ≤ 20) (hk4 : ∀ x, x ∈ r.sess → okS x) : FnM Tryz.prog 47 (fun i => [.box i 0, .agg [.sl (r.items.map aIm), .sl (r.sess.map aSs)]]) (aW w) (.tup []) (aW (r.sess.foldl wSess (wrNums (r.items.foldl wItem (wrNums w [(r.items.length : Int)])) [(r.sess.length : Int)]))) := by
 have hw0 := wrNums_len [((r.items.map aIm).length : Int)] w
 have hw1 : [((r.items.map aIm).length : Int)].length = 1 := rfl
 have b1 := fold_len (c := 40) (wf := wItem) (wrNums w [((r.items.map aIm).length : Int)]) r.items (fun x hx w' => wItem_len x w')
 have b2 := wrNums_len [((r.sess.map aSs).length : Int)] (r.items.foldl wItem (wrNums w [((r.items.map aIm).length : Int)]))
 have b3 : [((r.sess.map aSs).length : Int)].length = 1 := rfl
 refine FnM.of Tryz.func47 rfl rfl (fun i => by simp) (fun H i m hHm hi hG => ?_)
 have hN : NoH H.length (.tup []) := (by simp)
 refine sr fun _ => ?_
 refine ρt ?_
 refine ez (sr fun _ => ?_)
 refine mv ?_
 refine ρ0 U62 sz59 ?_
 refine ρ2 U59 ?_
 refine ρq U59 ?_
 refine ρy U24 sz3 zv3 ?_
 refine ARun.callO hi hG rfl rfl rfl rfl cf26 (ep rfl) (.cons (ep rfl) (.cons (ep rfl) .nil)) rfl (nums_w w [((r.items.map aIm).length : Int)] (by simp) (by omega) (fit_one (by rw [List.length_map]; omega)) _ _ (atO hi)) (by first | exact noH_aW _ _ | (simp; done) | (simp [cAV]; done)) optN (fun hG => ?_)
 refine ez ?_
 refine AWP.seq (sr fun _ => ?_)
 refine ρ0 U62 sz59 ?_
 refine ρ2 U59 ?_
 refine ρq U59 ?_
 refine mv ?_
 refine ez ?_
 refine AWP.block ?_
 refine AWP.roundsO (fun k => k ≤ r.items.length) (fun k => [(0, .box i 0), (3, .pe [.sl (r.items.map aIm), .sl (r.sess.map aSs)]), (15, .sl (r.items.map aIm)), (16, .int .i64 ((r.items.map aIm).length : Int)), (17, .int .i64 (k : Int))]) (fun k => H.set i (.box (aW ((r.items.take k).foldl wItem (wrNums w [((r.items.map aIm).length : Int)]))))) (fun k => []) (fun k => r.items.length - k) 0 0 (Nat.zero_le _) (by repeat (first | exact .nil | refine .cons rfl ?_)) rfl rfl (fun _ => rfl) (fun _ => ⟨by simp [AV.cells, aIn, aOut, aAt, aMg, aEv, aRc, aRn, aAk, aKn, aEn, aQu, aIm, aSs, aRep]; try omega, by simp⟩) (fun k hI hG => ?_)
 show AWP _ _ _ _ _ [(0, .box i 0), (3, .pe [.sl (r.items.map aIm), .sl (r.sess.map aSs)]), (15, .sl (r.items.map aIm)), (16, .int .i64 ((r.items.map aIm).length : Int)), (17, .int .i64 (k : Int))] (H.set i (.box (aW ((r.items.take k).foldl wItem (wrNums w [((r.items.map aIm).length : Int)]))))) []
 replace hG : GOK _ (H.set i (.box (aW ((r.items.take k).foldl wItem (wrNums w [((r.items.map aIm).length : Int)]))))) := hG
 have hk := hI
 have hb := fold_len (c := 40) (wf := wItem) (wrNums w [((r.items.map aIm).length : Int)]) (r.items.take k) (fun x hx w' => wItem_len x w')
 have hb2 : (r.items.take k).length ≤ r.items.length := by rw [List.length_take]; omega
 refine sr fun _ => ?_
 refine ρ6 ?_
 refine ez ?_
 refine AWP.seq ?_
 refine ρo (fun h0 => ?_) (fun h0 => ?_)
 · try simp [-List.getD_eq_getElem?_getD] at h0
   have hX : okI (r.items.getD k default) := hk2 _ (in_at h0)
   refine AWP.skip (thenA_n ?_)
   refine AWP.seq (AWP.block (sr fun _ => ?_))
   first | refine ρa U59 sz186 ?_ | refine ρ7 U59 sz186 ?_
   refine ρl U186 sz186 ?_
   refine ρp (j := 0) zv186 ?_
   refine ρ8 sz186 ?_
   refine ez ?_
   refine AWP.frzBox 5 hG rfl rfl rfl ?_
   refine AWP.region (fun _ => ?_)
   refine mv ?_
   refine ρ0 U186 sz3 ?_
   refine ρ2 U3 ?_
   refine ρ0 U186 sz3 ?_
   refine ρ2 U3 ?_
   refine ρ0 U186 sz3 ?_
   refine ρ2 U3 ?_
   refine ρ0 U186 sz3 ?_
   refine ρ2 U3 ?_
   refine ARun.buildSl rfl rfl rfl rfl U24 sz3 zv3 rfl (by decide) (.cons (ep rfl) (.cons (ep rfl) (.cons (ep rfl) (.cons (ep rfl) .nil)))) rfl rfl rfl rfl (by decide) rfl rfl optN ?_
   refine ARun.callO hi hG rfl rfl rfl rfl cf26 (ep rfl) (.cons (ep rfl) (.cons (ep rfl) .nil)) rfl (nums_w ((r.items.take k).foldl wItem (wrNums w [((r.items.map aIm).length : Int)])) [(r.items.getD k default).id, (r.items.getD k default).free, (r.items.getD k default).held, (r.items.getD k default).gone] (by simp) (by omega) hX _ _ (atO hi)) (by first | exact noH_aW _ _ | (simp; done) | (simp [cAV]; done)) optN (fun hG => ?_)
   refine ⟨_, _, rfl, hG, ?_⟩
   refine blockA_n (thenA_n ?_)
   refine AWP.region (fun _ => ?_)
   first | refine ρd ?_ | refine ρg ?_
   refine mv ?_
   refine ⟨_, _, rfl, hG, ?_⟩
   refine thenA_n ⟨k + 1, _, ?_, ?_, ?_, rfl, ?_⟩
   · rw [fold_succ wItem _ _ _ (by simpa using h0)]
     try rfl
   · omega
   · repeat (first | exact .nil | refine .cons rfl ?_)
   omega
 simp at h0
 obtain rfl : k = r.items.length := by omega
 rw [List.take_length] at hG ⊢
 refine AWP.exit ?_
 refine thenA_x ?_
 refine thenA_x ?_
 refine blockA_h ?_
 refine thenA_n (sr fun _ => ?_)
 refine mv ?_
 refine ρ0 U62 sz60 ?_
 refine ρ2 U60 ?_
 refine ρq U60 ?_
 refine ρy U24 sz3 zv3 ?_
 refine ARun.callO hi hG rfl rfl rfl rfl cf26 (ep rfl) (.cons (ep rfl) (.cons (ep rfl) .nil)) rfl (nums_w (r.items.foldl wItem (wrNums w [((r.items.map aIm).length : Int)])) [((r.sess.map aSs).length : Int)] (by simp) (by omega) (fit_one (by rw [List.length_map]; omega)) _ _ (atO hi)) (by first | exact noH_aW _ _ | (simp; done) | (simp [cAV]; done)) optN (fun hG => ?_)
 refine ez (sr fun _ => ?_)
 refine ρ0 U62 sz60 ?_
 refine ρ2 U60 ?_
 refine ρq U60 ?_
 refine mv ?_
 refine ez ?_
 refine AWP.block ?_
 refine AWP.roundsO (fun k => k ≤ r.sess.length) (fun k => [(0, .box i 0), (40, .sl (r.sess.map aSs)), (41, .int .i64 ((r.sess.map aSs).length : Int)), (42, .int .i64 (k : Int))]) (fun k => H.set i (.box (aW ((r.sess.take k).foldl wSess (wrNums (r.items.foldl wItem (wrNums w [((r.items.map aIm).length : Int)])) [((r.sess.map aSs).length : Int)]))))) (fun k => []) (fun k => r.sess.length - k) 0 0 (Nat.zero_le _) (by repeat (first | exact .nil | refine .cons rfl ?_)) rfl rfl (fun _ => rfl) (fun _ => ⟨by simp [AV.cells, aIn, aOut, aAt, aMg, aEv, aRc, aRn, aAk, aKn, aEn, aQu, aIm, aSs, aRep]; try omega, by simp⟩) (fun k hI hG => ?_)
 show AWP _ _ _ _ _ [(0, .box i 0), (40, .sl (r.sess.map aSs)), (41, .int .i64 ((r.sess.map aSs).length : Int)), (42, .int .i64 (k : Int))] (H.set i (.box (aW ((r.sess.take k).foldl wSess (wrNums (r.items.foldl wItem (wrNums w [((r.items.map aIm).length : Int)])) [((r.sess.map aSs).length : Int)]))))) []
 replace hG : GOK _ (H.set i (.box (aW ((r.sess.take k).foldl wSess (wrNums (r.items.foldl wItem (wrNums w [((r.items.map aIm).length : Int)])) [((r.sess.map aSs).length : Int)]))))) := hG
 have hk := hI
 have hb := fold_len (c := 400) (wf := wSess) (wrNums (r.items.foldl wItem (wrNums w [((r.items.map aIm).length : Int)])) [((r.sess.map aSs).length : Int)]) (r.sess.take k) (fun x hx w' => wSess_len x (hk4 x (List.mem_of_mem_take hx)) w')
 have hb2 : (r.sess.take k).length ≤ r.sess.length := by rw [List.length_take]; omega
 refine sr fun _ => ?_
 refine ρ6 ?_
 refine ez ?_
 refine AWP.seq ?_
 refine ρo (fun h1 => ?_) (fun h1 => ?_)
 · try simp [-List.getD_eq_getElem?_getD] at h1
   have hY : okS (r.sess.getD k default) := hk4 _ (in_at h1)
   have a1 := wrNums_len [(r.sess.getD k default).client, (r.sess.getD k default).seq] ((r.sess.take k).foldl wSess (wrNums (r.items.foldl wItem (wrNums w [((r.items.map aIm).length : Int)])) [((r.sess.map aSs).length : Int)]))
   have a2 : [(r.sess.getD k default).client, (r.sess.getD k default).seq].length = 2 := rfl
   refine AWP.skip (thenA_n ?_)
   refine AWP.seq (AWP.block (sr fun _ => ?_))
   first | refine ρa U60 sz188 ?_ | refine ρ7 U60 sz188 ?_
   refine ρl U188 sz188 ?_
   refine ρp (j := 0) zv188 ?_
   refine ρ8 sz188 ?_
   refine ez ?_
   refine AWP.seq ?_
   refine AWP.frzBox 7 hG rfl rfl rfl ?_
   refine AWP.region (fun _ => ?_)
   refine mv ?_
   refine ρ0 U188 sz3 ?_
   refine ρ2 U3 ?_
   refine ρ0 U188 sz3 ?_
   refine ρ2 U3 ?_
   refine ARun.buildSl rfl rfl rfl rfl U24 sz3 zv3 rfl (by decide) (.cons (ep rfl) (.cons (ep rfl) .nil)) rfl rfl rfl rfl (by decide) rfl rfl optN ?_
   refine ARun.callO hi hG rfl rfl rfl rfl cf26 (ep rfl) (.cons (ep rfl) (.cons (ep rfl) .nil)) rfl (nums_w ((r.sess.take k).foldl wSess (wrNums (r.items.foldl wItem (wrNums w [((r.items.map aIm).length : Int)])) [((r.sess.map aSs).length : Int)])) [(r.sess.getD k default).client, (r.sess.getD k default).seq] (by simp) (by omega) hY.1 _ _ (atO hi)) (by first | exact noH_aW _ _ | (simp; done) | (simp [cAV]; done)) optN (fun hG => ?_)
   refine ez ?_
   refine AWP.region (fun _ => ?_)
   refine mv ?_
   refine ρ0 U188 sz9 ?_
   refine ρ2 U9 ?_
   refine ARun.callO hi hG rfl rfl rfl rfl cf27 (ep rfl) (.cons (ep rfl) (.cons (ep rfl) .nil)) rfl (text_w (wrNums ((r.sess.take k).foldl wSess (wrNums (r.items.foldl wItem (wrNums w [((r.items.map aIm).length : Int)])) [((r.sess.map aSs).length : Int)])) [(r.sess.getD k default).client, (r.sess.getD k default).seq]) (r.sess.getD k default).reply (by have := hY.2; omega) (by omega) _ _ (atO hi)) (by first | exact noH_aW _ _ | (simp; done) | (simp [cAV]; done)) optN (fun hG => ?_)
   refine ⟨_, _, rfl, hG, ?_⟩
   refine blockA_n (thenA_n ?_)
   refine AWP.region (fun _ => ?_)
   first | refine ρd ?_ | refine ρg ?_
   refine mv ?_
   refine ⟨_, _, rfl, hG, ?_⟩
   refine thenA_n ⟨k + 1, _, ?_, ?_, ?_, rfl, ?_⟩
   · rw [fold_succ wSess _ _ _ (by simpa using h1)]
     try rfl
   · omega
   · repeat (first | exact .nil | refine .cons rfl ?_)
   omega
 simp at h1
 obtain rfl : k = r.sess.length := by omega
 rw [List.take_length] at hG ⊢
 refine AWP.exit ?_
 refine thenA_x ?_
 refine thenA_x ?_
 refine blockA_h ?_
 refine endF.toG (congrArg (fun c => H.set i (AO.box c)) (by rw [List.length_map, List.length_map])) ?_
 refine endF.many (.inl rfl) (rs := []) rfl .nil (by simp) ?_ (by rw [List.length_set]; exact hN)
 rfl
end Go.Proofs.YtnlpojjfkgnhhaaGreatDoor
namespace Go.Proofs.YtnlpojjfkgnhhaaGreatDoor
open Go.RowKit
section
variable {P : Program} {ops : Array Oper} {n m : Nat} {QQ : List Kd → Sl → List AO → Prop} {l : List Oper} {ks : List Kd} {σ : Sl} {G L H : List AO} {o : Oper} {gd : Bool}
theorem ARun.buildZ {t : TypeId} {zv : Value} {Y : AV} {d : Option Tmp} (ho : o.op = .build t #[]) (hd : o.dst = d) (hn : dstLt n d = true) (hG : gdS ops σ o.guard = some gd) {pl : List (Nat × Nat)} (hst : StOk P t zv pl) (hY : optA o.guard gd (.raw (.agg zv.cells)) = Y)
   (hr : ARun P ops n QQ l (ks ++ [.pure]) (putS σ d Y) H) : ARun P ops n QQ (o :: l) ks σ H := by
 obtain ⟨fields, hu, hz, hi, hpl⟩ := hst
 refine ARun.same hd hn hG hY (fun hg a W β hl => ?_) hr
 refine ⟨.agg zv.cells, ?_, .raw _⟩
 have h3 := places_run (P := P) (w := W) fields.toList hi
 have h3' : (List.mapM (m := Sem) (fun f : Field => Prod.mk f.offset <$> sizeOf f.type) fields.toList).run P W = .ok (placesOf P fields.toList) W := by simpa using h3
 have h4' : (Array.mapM (m := Sem) (fun f : Field => Prod.mk f.offset <$> sizeOf f.type) fields).run P W = .ok (placesOf P fields.toList).toArray W := by
   rw [Array.mapM_eq_mapM_toList]; simp [h3']
 have h6 : (Instr.build t #[]).run P W = .ok (.agg zv.cells) W := by
   unfold Instr.build
   simp only [Sem.run_bind, hz.run, run_underlying hu]
   simp [h4', Instr.fill]
 simp only [execOp, ho]
 simp [h6]
theorem ARun.boxBld {x : Operand} {t e : TypeId} {j : Nat} {vs : Array Value} {C : List AV} {Y : AV} {d : Option Tmp} (hm : GOK m G) (hj : L.length = j) (ho : o.op = .box t x) (hd : o.dst = d) (hn : dstLt n d = true) (hg : gdS ops σ o.guard = some true)
   (hx : Ev true σ x (.raw (.agg vs))) (hk : vs[0]? = some (.pointer none)) (hk1 : vs[1]? = some (.slice none 0 0)) (hC : ((vs.toList.map cAV).set 0 (.adr t)).set 1 (.buf e ⟨#[]⟩) = C) (hY : optA o.guard true (.box (m + j) 0) = Y)
   (hr : ARun P ops n QQ l (ks ++ [.new]) (putS σ d Y) (G ++ (L ++ [.box C]))) : ARun P ops n QQ (o :: l) ks σ (G ++ L) := by
 refine ARun.new (E := [.box C]) hd hn hg hY (fun H0 hl0 a W β hHr hl => ?_) (by rw [List.append_assoc]; exact hr)
 subst hC
 have h0 := hx.rep rfl hl (by simp [ho, Op.operands])
 generalize hv : a.eval x = v at h0
 cases h0
 have hkl : 0 < vs.size := (Array.getElem?_eq_some_iff.1 hk).1
 have hkl1 : 1 < vs.size := (Array.getElem?_eq_some_iff.1 hk1).1
 have hb : Below W.heap.size W (W.alloc (.cells vs t)) := (Below.refl _ _).alloc (Nat.le_refl _) _
 have hsn := hHr.snoc (w' := W.alloc (.cells vs t)) hb (x := .bld W.heap.size (.slice none 0 0)) (o := .box (((vs.toList.map cAV).set 0 (.adr t)).set 1 (.buf e ⟨#[]⟩))) ⟨vs, t, heap_alloc_new W _, by simp, fun q u y h1 h2 => by
   by_cases e1 : 1 = q
   · subst e1
     rw [List.getElem?_set_self (by simp; omega)] at h2
     cases h2; exact .buf _ _ _
   · rw [List.getElem?_set_ne e1] at h2
     by_cases e2 : 0 = q
     · subst e2
       rw [List.getElem?_set_self (by simp; omega)] at h2
       cases h2; exact .adr _ _
     rw [List.getElem?_set_ne e2, List.getElem?_map, Array.getElem?_toList, h1] at h2
     cases h2; exact cAV_rep _ _ _,
   e, ⟨#[]⟩, by rw [List.getElem?_set_ne (by omega), List.getElem?_set_self (by simp; omega)], by rw [List.getElem?_set_self (by simp; omega)], hk1, .inl hk, World.ownsRow_nil _ 0 e 1, by simp [Value.ownBlock], fun _ => rfl⟩ (fun b hb => by simp [Hd.blks, Value.ownBlock] at hb; omega)
 have hlen : β.length = m + j := by rw [hHr.len, hl0, List.length_append, hm.1, hj]
 refine ⟨.pointer (some ⟨W.heap.size, 0, none⟩), _, β ++ [.bld W.heap.size (.slice none 0 0)], ?_, hsn.1, hsn.2, .box _ _ _ (by rw [List.length_append, hlen]; simp) fun x b hb hcb => ?_⟩
 · simp [execOp, ho, hv, Instr.box, newVar, newRow, Value.cells]
 rw [List.getElem?_append_right (by omega), hlen, Nat.sub_self] at hb
 cases hb; cases hcb; rfl
end
end Go.Proofs.YtnlpojjfkgnhhaaGreatDoor
namespace Go.Proofs.YtnlpojjfkgnhhaaGreatDoor
open Go.RowKit
theorem ti107 : Ti Tryz.prog 107 (.agg #[.pointer none, .bool false]) 2 16 := by unfold Ti; kernel_rfl
theorem zv107 : Zv Tryz.prog 107 (.agg #[.pointer none, .bool false]) := ti107.zv
theorem cf40 : ∀ (vs : Array Value) (W : World), (callFunc 40 vs).run Tryz.prog W = .ok (.enter 40 vs) W := fun _ _ => by rfl
theorem cf41 : ∀ (vs : Array Value) (W : World), (callFunc 41 vs).run Tryz.prog W = .ok (.enter 41 vs) W := fun _ _ => by rfl
theorem cf42 : ∀ (vs : Array Value) (W : World), (callFunc 42 vs).run Tryz.prog W = .ok (.enter 42 vs) W := fun _ _ => by rfl
theorem cf43 : ∀ (vs : Array Value) (W : World), (callFunc 43 vs).run Tryz.prog W = .ok (.enter 43 vs) W := fun _ _ => by rfl
theorem cf46 : ∀ (vs : Array Value) (W : World), (callFunc 46 vs).run Tryz.prog W = .ok (.enter 46 vs) W := fun _ _ => by rfl
theorem cf47 : ∀ (vs : Array Value) (W : World), (callFunc 47 vs).run Tryz.prog W = .ok (.enter 47 vs) W := fun _ _ => by rfl
theorem so90 : StOk Tryz.prog 90 (.agg #[.pointer none, .slice none 0 0, .nilIface]) [(0, 2), (2, 1)] := ⟨_, U90, zv90, by kernel_rfl, by kernel_rfl⟩
theorem so107 : StOk Tryz.prog 107 (.agg #[.pointer none, .bool false]) [(0, 1), (1, 1)] := ⟨_, U107, zv107, by kernel_rfl, by kernel_rfl⟩
end Go.Proofs.YtnlpojjfkgnhhaaGreatDoor
namespace Go.Proofs.YtnlpojjfkgnhhaaGreatDoor
open Go.RowKit
open NumP
def tImage : ByteArray := ⟨#[105, 109, 97, 103, 101]⟩
theorem w1_len (r : Rep) : (w1 r).s.length ≤ 90 := Nat.le_trans (wrNums_len (nR r) WrS.new) (Nat.le_refl _)
theorem w3_len {r : Rep} (h : okR r) : (w2 r).s.length ≤ 410000 ∧ (w3 r).s.length ≤ 420000 := by
 have h1 := w1_len r
 have h2 := wrNums_len [(r.entries.length : Int)] (w1 r)
 have h3 := fold_len (c := 10000) (wf := wEntry) (wrNums (w1 r) [(r.entries.length : Int)]) r.entries (fun x hx w' => wEntry_len x (h.e x hx) w')
 have h4 := h.el
 have h5 := wGroups_len (un := unAt) (c := 2) (fun _ => rfl) (w2 r) r.own
 have h6 := h.ol
 have h7 : [(r.entries.length : Int)].length = 1 := rfl
 have h8 : (w2 r).s.length ≤ 410000 := by show (r.entries.foldl wEntry _).s.length ≤ _; omega
 exact ⟨h8, by show (wGroups unAt (w2 r) r.own).s.length ≤ _; omega⟩
theorem w7_len {r : Rep} (h : okR r) : (w7 r).s.length ≤ 800000 := by
 have h0 := (w3_len h).2
 have b4 := fold_len (c := 20000) (wf := wKnown) (w3 r) r.known (fun x hx w' => wKnown_len x (h.k x hx) w')
 have b5 := fold_len (c := 10000) (wf := wrRow) (w4 r) r.marks (fun x hx w' => wRow_len2 x (h.m x hx) w')
 have b6 := wRow_len2 r.fronts h.fr (w5 r)
 have b7 := fold_len (c := 10000) (wf := wGroups unRn) (w6 r) r.done (fun x hx w' => wDone_len x (h.d x hx) w')
 have h1 := h.kl
 have h2 := h.ml
 have h3 := h.dl
 change (w4 r).s.length ≤ _ at b4
 change (w5 r).s.length ≤ _ at b5
 change (w6 r).s.length ≤ _ at b6
 show (r.done.foldl (wGroups unRn) (w6 r)).s.length ≤ _
 omega
def takeIE (s : ByteArray) : Er := if (imEnd s).e ≠ 0 then Er.wrap tImage (errOf tRead (imEnd s).p (imEnd s).e) else if (imS (imSt s)).2.2 = true then Er.new tImage 5 else Er.new tImage (replicaE (allQ (imSt s)))
def takeI (s : ByteArray) : Rep := if (imEnd s).e ≠ 0 then Rep.zero else if (imS (imSt s)).2.2 = true then Rep.zero else if replicaE (allQ (imSt s)) ≠ 0 then Rep.zero else allQ (imSt s)
theorem wide_fn (r : Rep) (h : okR r) : FnP Tryz.prog 42 [aRep r] (.bool false) := by
 have hkl := h.kl
 have hdl := h.dl
 have ho : ((r.own.map aAt).length : Int) ≤ 500 := by have := h.ol; rw [List.length_map]; omega
 refine FnP.of Tryz.func42 rfl rfl (by simp) (by simp [AV.cells, aIn, aOut, aAt, aMg, aEv, aRc, aRn, aAk, aKn, aEn, aQu, aIm, aSs, aRep]) (fun G hG => ?_)
 have hN : NoH G.length (.bool false) := (by simp [AV.cells, aIn, aOut, aAt, aMg, aEv, aRc, aRn, aAk, aKn, aEn, aQu, aIm, aSs, aRep])
 refine sr fun _ => ?_
 refine ρt ?_
 refine mz (sr fun _ => ?_)
 refine ρ0 U64 sz23 ?_
 refine ρ2 U23 ?_
 refine ρq U23 ?_
 refine mz ?_
 refine AWP.seq (sr fun _ => ?_)
 refine ρ0 U64 sz54 ?_
 refine ρ2 U54 ?_
 refine ρq U54 ?_
 refine mv ?_
 refine ez ?_
 refine AWP.block ?_
 refine AWP.rounds (fun kf => kf.1 ≤ r.known.length ∧ kf.2 ≤ 500) (fun kf => [(1, .pe [.int .i64 r.n, .int .i64 r.f, .int .i64 r.self, .int .i64 r.clock, .int .i64 r.seq, .int .i64 r.floor, .int .i64 r.ticks, .sl (r.entries.map aEn), .sl (r.own.map aAt), .sl (r.known.map aKn), .sl (r.marks.map fun l => AV.sl (l.map (AV.int .i64))), .sl (r.fronts.map (AV.int .i64)), .sl (r.done.map fun l => AV.sl (l.map aRn)), .int .i64 r.last.t, .int .i64 r.last.id, .int .i64 r.count, .sl (r.items.map aIm), .sl (r.sess.map aSs)]), (3, .int .i64 kf.2), (12, .sl (r.known.map aKn)), (13, .int .i64 ((r.known.map aKn).length : Int)), (14, .int .i64 (kf.1 : Int))]) (fun kf => []) (fun kf => r.known.length - kf.1) 0 ((0, ((r.own.map aAt).length : Int)) : Nat × Int) ⟨Nat.zero_le _, ho⟩ (by repeat (first | exact .nil | refine .cons rfl ?_)) rfl (fun _ => rfl) (fun _ => ⟨by simp [AV.cells, aIn, aOut, aAt, aMg, aEv, aRc, aRn, aAk, aKn, aEn, aQu, aIm, aSs, aRep], by simp⟩) (fun kf hI => ?_)
 obtain ⟨k, far⟩ := kf
 dsimp only at hI
 show AWP _ _ _ _ _ [(1, .pe [.int .i64 r.n, .int .i64 r.f, .int .i64 r.self, .int .i64 r.clock, .int .i64 r.seq, .int .i64 r.floor, .int .i64 r.ticks, .sl (r.entries.map aEn), .sl (r.own.map aAt), .sl (r.known.map aKn), .sl (r.marks.map fun l => AV.sl (l.map (AV.int .i64))), .sl (r.fronts.map (AV.int .i64)), .sl (r.done.map fun l => AV.sl (l.map aRn)), .int .i64 r.last.t, .int .i64 r.last.id, .int .i64 r.count, .sl (r.items.map aIm), .sl (r.sess.map aSs)]), (3, .int .i64 far), (12, .sl (r.known.map aKn)), (13, .int .i64 ((r.known.map aKn).length : Int)), (14, .int .i64 (k : Int))] _ []
 obtain ⟨hk, hf⟩ := hI
 refine sr fun _ => ?_
 refine ρ6 ?_
 refine ez ?_
 refine AWP.seq ?_
 refine ρo (fun h0 => ?_) (fun h0 => ?_)
 · try simp [-List.getD_eq_getElem?_getD] at h0
   have hX : okK (r.known.getD k default) := h.k _ (in_at h0)
   have a1 : (((r.known.getD k default).ranges.map aRn).length : Int) ≤ 500 := by have := hX.r; rw [List.length_map]; omega
   have a2 : (((r.known.getD k default).atts.map aAt).length : Int) ≤ 500 := by have := hX.a; rw [List.length_map]; omega
   refine AWP.skip (thenA_n ?_)
   refine AWP.seq (AWP.block (sr fun _ => ?_))
   first | refine ρa U54 sz164 ?_ | refine ρ7 U54 sz164 ?_
   refine ρl U164 sz164 ?_
   refine ρp (j := 0) zv164 ?_
   refine ρ8 sz164 ?_
   refine ez ?_
   refine AWP.frzBox 5 hG rfl rfl rfl ?_
   refine AWP.region (fun _ => ?_)
   refine mv ?_
   refine ρ0 U164 sz162 ?_
   refine ρ2 U162 ?_
   refine ρq U162 ?_
   refine ρ0 U164 sz23 ?_
   refine ρ2 U23 ?_
   refine ρq U23 ?_
   refine ARun.minmax3 rfl rfl rfl rfl (ep rfl) (ep rfl) (ep rfl) (.inr ⟨rfl, rfl⟩) optN ?_
   refine ma ?_
   refine ⟨_, _, rfl, hG, ?_⟩
   refine blockA_n (thenA_n ?_)
   refine AWP.region (fun _ => ?_)
   first | refine ρd ?_ | refine ρg ?_
   refine mv ?_
   refine ⟨_, _, rfl, hG, ?_⟩
   refine thenA_n ⟨rfl, (k + 1, max (max far (((r.known.getD k default).ranges.map aRn).length : Int)) (((r.known.getD k default).atts.map aAt).length : Int)), _, ?_, ?_, rfl, ?_⟩
   · exact ⟨by dsimp only; omega, by dsimp only; omega⟩
   · repeat (first | exact .nil | refine .cons rfl ?_)
   dsimp only; omega
 simp at h0
 refine AWP.exit ?_
 refine thenA_x ?_
 refine thenA_x ?_
 refine blockA_h ?_
 refine thenA_n (AWP.seq ?_)
 refine sr fun _ => ?_
 refine ρ0 U64 sz56 ?_
 refine ρ2 U56 ?_
 refine ρq U56 ?_
 refine mv ?_
 refine ez ?_
 refine AWP.block ?_
 refine AWP.rounds (fun kf => kf.1 ≤ r.done.length ∧ kf.2 ≤ 500) (fun kf => [(1, .pe [.int .i64 r.n, .int .i64 r.f, .int .i64 r.self, .int .i64 r.clock, .int .i64 r.seq, .int .i64 r.floor, .int .i64 r.ticks, .sl (r.entries.map aEn), .sl (r.own.map aAt), .sl (r.known.map aKn), .sl (r.marks.map fun l => AV.sl (l.map (AV.int .i64))), .sl (r.fronts.map (AV.int .i64)), .sl (r.done.map fun l => AV.sl (l.map aRn)), .int .i64 r.last.t, .int .i64 r.last.id, .int .i64 r.count, .sl (r.items.map aIm), .sl (r.sess.map aSs)]), (3, .int .i64 kf.2), (28, .sl (r.done.map fun l => AV.sl (l.map aRn))), (29, .int .i64 ((r.done.map fun l => AV.sl (l.map aRn)).length : Int)), (30, .int .i64 (kf.1 : Int))]) (fun kf => []) (fun kf => r.done.length - kf.1) 0 ((0, far) : Nat × Int) ⟨Nat.zero_le _, hf⟩ (by repeat (first | exact .nil | refine .cons rfl ?_)) rfl (fun _ => rfl) (fun _ => ⟨by simp [AV.cells, aIn, aOut, aAt, aMg, aEv, aRc, aRn, aAk, aKn, aEn, aQu, aIm, aSs, aRep], by simp⟩) (fun kf hI => ?_)
 obtain ⟨k, fr⟩ := kf
 dsimp only at hI
 show AWP _ _ _ _ _ [(1, .pe [.int .i64 r.n, .int .i64 r.f, .int .i64 r.self, .int .i64 r.clock, .int .i64 r.seq, .int .i64 r.floor, .int .i64 r.ticks, .sl (r.entries.map aEn), .sl (r.own.map aAt), .sl (r.known.map aKn), .sl (r.marks.map fun l => AV.sl (l.map (AV.int .i64))), .sl (r.fronts.map (AV.int .i64)), .sl (r.done.map fun l => AV.sl (l.map aRn)), .int .i64 r.last.t, .int .i64 r.last.id, .int .i64 r.count, .sl (r.items.map aIm), .sl (r.sess.map aSs)]), (3, .int .i64 fr), (28, .sl (r.done.map fun l => AV.sl (l.map aRn))), (29, .int .i64 ((r.done.map fun l => AV.sl (l.map aRn)).length : Int)), (30, .int .i64 (k : Int))] _ []
 obtain ⟨hk, hfr⟩ := hI
 refine sr fun _ => ?_
 refine ρ6 ?_
 refine ez ?_
 refine AWP.seq ?_
 refine ρo (fun h1 => ?_) (fun h1 => ?_)
 · try simp [-List.getD_eq_getElem?_getD] at h1
   have hY : okD (r.done.getD k default) := h.d _ (in_at h1)
   have a1 : (((r.done.getD k default).map aRn).length : Int) ≤ 500 := by have := hY.1; rw [List.length_map]; omega
   refine AWP.skip (thenA_n ?_)
   refine AWP.seq (AWP.block (sr fun _ => ?_))
   first | refine ρa U56 sz162 ?_ | refine ρ7 U56 sz162 ?_
   refine ρ2 U162 ?_
   refine mz ?_
   refine AWP.region (fun _ => ?_)
   refine mv ?_
   refine mv ?_
   refine ρq U162 ?_
   refine ARun.minmax rfl rfl rfl rfl (ep rfl) (ep rfl) (.inr ⟨rfl, rfl⟩) optN ?_
   refine ma ?_
   refine ⟨_, _, rfl, hG, ?_⟩
   refine blockA_n (thenA_n ?_)
   refine AWP.region (fun _ => ?_)
   first | refine ρd ?_ | refine ρg ?_
   refine mv ?_
   refine ⟨_, _, rfl, hG, ?_⟩
   refine thenA_n ⟨rfl, (k + 1, max fr (((r.done.getD k default).map aRn).length : Int)), _, ?_, ?_, rfl, ?_⟩
   · exact ⟨by dsimp only; omega, by dsimp only; omega⟩
   · repeat (first | exact .nil | refine .cons rfl ?_)
   dsimp only; omega
 simp at h1
 refine AWP.exit ?_
 refine thenA_x ?_
 refine thenA_x ?_
 refine blockA_h ?_
 refine thenA_n (sr fun _ => ?_)
 refine mv ?_
 refine ρ6 ?_
 refine mz ?_
 refine AWP.ret ?_
 refine ρ9 ?_
 exact congrArg AV.bool (decide_eq_false (by omega))
set_option maxHeartbeats 4000000 in
theorem putI_fn (r : Rep) (h : okR r) (hs : SmallR r) (hz : replicaE r = 0) (he : (layI r).e = 0) (hl : (layI r).s.length ≤ 18000) : FnP Tryz.prog 15 [aRep r] (.tup [.str (bs (layI r).s), .raw .nilIface]) := by
 have b1 := w1_len r
 have b2 := w3_len h
 have b3 := w7_len h
 refine FnP.of Tryz.func15 rfl rfl (by simp) (by simp [AV.cells, aIn, aOut, aAt, aMg, aEv, aRc, aRn, aAk, aKn, aEn, aQu, aIm, aSs, aRep]) (fun G hG => ?_)
 have hN : NoH G.length (.tup [.str (bs (layI r).s), .raw .nilIface]) := (by simp [AV.cells, aIn, aOut, aAt, aMg, aEv, aRc, aRn, aAk, aKn, aEn, aQu, aIm, aSs, aRep])
 refine sr fun _ => ?_
 refine ρt ?_
 refine ma ?_
 refine mz ?_
 refine AWP.seq (sr fun _ => ?_)
 refine ρl U64 sz64 ?_
 refine ρf cf41 (fun hg => replica_fn r hs) ?_
 refine mz (sr fun _ => ?_)
 refine mv ?_
 refine ρ6 ?_
 refine ez ?_
 refine ρo (fun h0 => ?_) (fun h0 => ?_)
 · simp [hz] at h0
 refine AWP.skip (thenA_n (AWP.seq (sr fun _ => ?_)))
 refine ρl U64 sz64 ?_
 refine ρf cf42 (fun hg => wide_fn r h) ?_
 refine ez ?_
 refine ρo (fun h1 => ?_) (fun h1 => ?_)
 · cases h1
 refine AWP.skip (thenA_n (sr fun _ => ?_))
 refine ARun.buildZ rfl rfl rfl rfl so90 optN ?_
 refine ARun.boxBld (j := 0) (e := 5) hG rfl rfl rfl rfl rfl (ep rfl) rfl rfl rfl optN ?_
 refine mz (sr fun _ => ?_)
 refine mv ?_
 refine ρ0 U64 sz3 ?_
 refine ρ2 U3 ?_
 refine ρ0 U64 sz3 ?_
 refine ρ2 U3 ?_
 refine ρ0 U64 sz3 ?_
 refine ρ2 U3 ?_
 refine ρ0 U64 sz3 ?_
 refine ρ2 U3 ?_
 refine ρ0 U64 sz3 ?_
 refine ρ2 U3 ?_
 refine ρ0 U64 sz3 ?_
 refine ρ2 U3 ?_
 refine ρ0 U64 sz3 ?_
 refine ρ2 U3 ?_
 refine ρ0 U64 sz58 ?_
 refine ρ0 U58 sz3 ?_
 refine ρ2 U3 ?_
 refine ρ0 U64 sz58 ?_
 refine ρ0 U58 sz3 ?_
 refine ρ2 U3 ?_
 refine ρ0 U64 sz3 ?_
 refine ρ2 U3 ?_
 refine ARun.buildSl rfl rfl rfl rfl U24 sz3 zv3 rfl (by decide) (.cons (ep rfl) (.cons (ep rfl) (.cons (ep rfl) (.cons (ep rfl) (.cons (ep rfl) (.cons (ep rfl) (.cons (ep rfl) (.cons (ep rfl) (.cons (ep rfl) (.cons (ep rfl) .nil)))))))))) rfl rfl rfl rfl (by decide) (show _ = some [.int .i64 r.n, .int .i64 r.f, .int .i64 r.self, .int .i64 r.clock, .int .i64 r.seq, .int .i64 r.floor, .int .i64 r.ticks, .int .i64 r.last.t, .int .i64 r.last.id, .int .i64 r.count] from by kernel_rfl) rfl optN ?_
 refine ARun.callSet (j := 0) hG rfl rfl rfl rfl cf26 (ep rfl) (.cons (ep rfl) (.cons (ep rfl) .nil)) rfl (nums_w WrS.new (nR r) (by simp [nR]) (by simp [WrS.new]) h.n _ _ ((hG.at _ _).trans rfl)) rfl optN ?_
 refine ez (sr fun _ => ?_)
 refine mv ?_
 refine ρ0 U64 sz53 ?_
 refine ρ2 U53 ?_
 refine ARun.callSet (j := 0) hG rfl rfl rfl rfl cf43 (ep rfl) (.cons (ep rfl) (.cons (ep rfl) .nil)) rfl (commands_w (w1 r) r.entries h.el (by omega) h.e _ _ ((hG.at _ _).trans rfl)) rfl optN ?_
 refine ez (sr fun _ => ?_)
 refine mv ?_
 refine ρ0 U64 sz23 ?_
 refine ρ2 U23 ?_
 refine ARun.callSet (j := 0) hG rfl rfl rfl rfl cf44 (ep rfl) (.cons (ep rfl) (.cons (ep rfl) (.cons (ep rfl) .nil))) rfl (rowAt_w 45 2 unAt (w2 r) r.own (by have := h.ol; omega) (by omega) (fun _ => rfl) (by omega) h.o cf45 attI_fn _ _ ((hG.at _ _).trans rfl)) rfl optN ?_
 refine ez (sr fun _ => ?_)
 refine mv ?_
 refine ρl U64 sz64 ?_
 refine ARun.callSet (j := 0) hG rfl rfl rfl rfl cf46 (ep rfl) (.cons (ep rfl) (.cons (ep rfl) .nil)) rfl (hears_w (w3 r) r (by omega) h.kl h.k h.ml h.m h.fr h.dl h.d _ _ ((hG.at _ _).trans rfl)) rfl optN ?_
 refine ez (sr fun _ => ?_)
 refine mv ?_
 refine ρ0 U64 sz62 ?_
 refine ρl U62 sz62 ?_
 refine ARun.callSet (j := 0) hG rfl rfl rfl rfl cf47 (ep rfl) (.cons (ep rfl) (.cons (ep rfl) .nil)) rfl (store_w (w7 r) r (by omega) h.il h.i h.sl h.s _ _ ((hG.at _ _).trans rfl)) rfl optN ?_
 refine ez (sr fun _ => ?_)
 refine mv ?_
 refine ρv (j := 0) cf29 (done_ok (layI r) he _ _ ((hG.at _ _).trans rfl)) ?_
 refine mv ?_
 refine ρj ?_
 refine ρj ?_
 refine ma ?_
 refine mz ?_
 refine AWP.seq (sr fun _ => ?_)
 refine mv ?_
 refine ρr U28 ?_
 refine ez ?_
 refine ρo (fun h2 => ?_) (fun h2 => ?_)
 · simp at h2
 refine AWP.skip (thenA_n (AWP.seq (sr fun _ => ?_)))
 refine mv ?_
 refine ARun.lenStr rfl rfl rfl rfl U9 (ep rfl) optN ?_
 refine ρ6 ?_
 refine ez ?_
 refine ρo (fun h3 => ?_) (fun h3 => ?_)
 · simp only [decide_eq_true_eq] at h3
   have hq : (layI r).out.size = (layI r).s.length := by unfold WrS.out; rw [if_pos he]; rfl
   omega
 refine AWP.skip (thenA_n (sr fun _ => ?_))
 refine mv ?_
 refine ma ?_
 refine mz ?_
 refine AWP.ret ?_
 refine ρB (rs := [.tmp 2, .tmp 3]) (.cons (.tmp rfl) (.cons (.tmp rfl) .nil)) ?_
 unfold WrS.out; rw [if_pos he]; rfl
set_option maxHeartbeats 4000000 in
theorem takeI_fn (s : ByteArray) (hs : s.size ≤ 17000) : FnP Tryz.prog 14 [.str s] (.tup [aRep (takeI s), aEr (takeIE s)]) := by
 have hok : okQ (imSt s) := imSt_ok (by omega)
 have hend := (all_up hok (fun _ => upto_new s)).1
 refine FnP.of Tryz.func14 rfl rfl (by simp) (by simp [AV.cells, aIn, aOut, aAt, aMg, aEv, aRc, aRn, aAk, aKn, aEn, aQu, aIm, aSs, aRep]) (fun G hG => ?_)
 have hN : NoH G.length (.tup [aRep (takeI s), aEr (takeIE s)]) := (by simp [AV.cells, aIn, aOut, aAt, aMg, aEv, aRc, aRn, aAk, aKn, aEn, aQu, aIm, aSs, aRep])
 refine sr fun _ => ?_
 refine ρp (j := 0) zv64 ?_
 refine mz ?_
 refine AWP.seq (sr fun _ => ?_)
 refine mv ?_
 refine ARun.lenStr rfl rfl rfl rfl U9 (ep rfl) optN ?_
 refine ρ6 ?_
 refine ez ?_
 refine ρo (fun h0 => ?_) (fun h0 => ?_)
 · simp at h0; omega
 refine AWP.skip (thenA_n (sr fun _ => ?_))
 refine mv ?_
 refine ARun.callNewB (j := 1) hG rfl rfl rfl rfl rfl cf18 (ep rfl) (.cons (ep rfl) .nil) rfl (newr_fn s) optN ?_
 refine ARun.build rfl rfl rfl rfl so107 (.cons (ep rfl) .nil) rfl rfl optN ?_
 refine ARun.box (j := 2) hG rfl rfl rfl rfl rfl (ep rfl) rfl rfl optN ?_
 refine mz (sr fun _ => ?_)
 refine mv ?_
 refine ARun.callH rfl rfl rfl rfl cf40 (ep rfl) (.cons (ep rfl) .nil) rfl (FnQ.atL (L' := [.box [.int .i64 0, .int .i64 0, .int .i64 0, .int .i64 0, .int .i64 0, .int .i64 0, .int .i64 0, .sl [], .sl [], .sl [], .sl [], .sl [], .sl [], .int .i64 0, .int .i64 0, .int .i64 0, .sl [], .sl []], .box (aRd (imS (imSt s)).2.1), .box [.box (G.length + 1) 0, .bool (imS (imSt s)).2.2]]) hG (allQ_fn (imSt s) hok) rfl rfl (by decide) rfl) optN ?_
 refine ρp (j := 3) zv64 ?_
 refine ρ8 sz64 ?_
 refine ez ?_
 refine AWP.seq ?_
 show AWP _ _ _ _ _ _ _ [.box [.int .i64 0, .int .i64 0, .int .i64 0, .int .i64 0, .int .i64 0, .int .i64 0, .int .i64 0, .sl [], .sl [], .sl [], .sl [], .sl [], .sl [], .int .i64 0, .int .i64 0, .int .i64 0, .sl [], .sl []], .box (aRd (imS (imSt s)).2.1), .box [.box (G.length + 1) 0, .bool (imS (imSt s)).2.2], .box [.int .i64 (allQ (imSt s)).n, .int .i64 (allQ (imSt s)).f, .int .i64 (allQ (imSt s)).self, .int .i64 (allQ (imSt s)).clock, .int .i64 (allQ (imSt s)).seq, .int .i64 (allQ (imSt s)).floor, .int .i64 (allQ (imSt s)).ticks, .sl ((allQ (imSt s)).entries.map aEn), .sl ((allQ (imSt s)).own.map aAt), .sl ((allQ (imSt s)).known.map aKn), .sl ((allQ (imSt s)).marks.map fun l => AV.sl (l.map (AV.int .i64))), .sl ((allQ (imSt s)).fronts.map (AV.int .i64)), .sl ((allQ (imSt s)).done.map fun l => AV.sl (l.map aRn)), .int .i64 (allQ (imSt s)).last.t, .int .i64 (allQ (imSt s)).last.id, .int .i64 (allQ (imSt s)).count, .sl ((allQ (imSt s)).items.map aIm), .sl ((allQ (imSt s)).sess.map aSs)]]
 refine AWP.region (fun _ => ?_)
 refine mv ?_
 first | refine ρw ?_ | refine ρx ?_ | refine ARun.nilBox rfl rfl rfl rfl (ep rfl) ((hG.at _ _).trans rfl) optN ?_
 refine ρe (fo := 0) U107 sz74 ?_
 refine ARun.loadBox rfl rfl rfl rfl U74 rfl (ep rfl) ((hG.at _ _).trans rfl) rfl optN ?_
 refine ρv (j := 1) cf33 (end_r (imS (imSt s)).2.1 hend _ _ ((hG.at _ _).trans rfl)) ?_
 refine ez ?_
 refine AWP.seq (AWP.seq ?_)
 show AWP _ _ _ _ _ _ _ [.box [.int .i64 0, .int .i64 0, .int .i64 0, .int .i64 0, .int .i64 0, .int .i64 0, .int .i64 0, .sl [], .sl [], .sl [], .sl [], .sl [], .sl [], .int .i64 0, .int .i64 0, .int .i64 0, .sl [], .sl []], .box (aRd (imEnd s)), .box [.box (G.length + 1) 0, .bool (imS (imSt s)).2.2], .box [.int .i64 (allQ (imSt s)).n, .int .i64 (allQ (imSt s)).f, .int .i64 (allQ (imSt s)).self, .int .i64 (allQ (imSt s)).clock, .int .i64 (allQ (imSt s)).seq, .int .i64 (allQ (imSt s)).floor, .int .i64 (allQ (imSt s)).ticks, .sl ((allQ (imSt s)).entries.map aEn), .sl ((allQ (imSt s)).own.map aAt), .sl ((allQ (imSt s)).known.map aKn), .sl ((allQ (imSt s)).marks.map fun l => AV.sl (l.map (AV.int .i64))), .sl ((allQ (imSt s)).fronts.map (AV.int .i64)), .sl ((allQ (imSt s)).done.map fun l => AV.sl (l.map aRn)), .int .i64 (allQ (imSt s)).last.t, .int .i64 (allQ (imSt s)).last.id, .int .i64 (allQ (imSt s)).count, .sl ((allQ (imSt s)).items.map aIm), .sl ((allQ (imSt s)).sess.map aSs)]]
 refine AWP.region (fun _ => ?_)
 refine mv ?_
 first | refine ρw ?_ | refine ρx ?_ | refine ARun.nilBox rfl rfl rfl rfl (ep rfl) ((hG.at _ _).trans rfl) optN ?_
 refine ρe (fo := 0) U107 sz74 ?_
 refine ARun.loadBox rfl rfl rfl rfl U74 rfl (ep rfl) ((hG.at _ _).trans rfl) rfl optN ?_
 refine ARun.callR rfl rfl rfl rfl cf20 (ep rfl) (.cons (ep rfl) .nil) rfl (fun hg => FnM.keep (rdone_fn (imEnd s)) ((hG.at _ _).trans rfl)) optN ?_
 refine mz (sr fun _ => ?_)
 refine mv ?_
 refine ρr U28 ?_
 refine ez ?_
 refine ρo (fun h1 => ?_) (fun h1 => ?_)
 · have he : (imEnd s).e ≠ 0 := by simpa [errOf_none] using h1
   refine sr fun _ => ?_
   refine ARun.build rfl rfl rfl rfl so64 .nil rfl rfl optN ?_
   refine mv ?_
   refine ρk cf21 (fun hg => wrap_fn tImage (errOf tRead (imEnd s).p (imEnd s).e)) ?_
   refine ρ8 sz64 ?_
   refine mz ?_
   refine AWP.ret (thenA_r ?_)
   refine ρB (rs := [.cell 2 64, .tmp 3]) (.cons (.cellA rfl ((hG.at _ _).trans rfl) U64 rfl sz64 rfl rfl) (.cons (.tmp rfl) .nil)) ?_
   rw [takeI, takeIE, if_pos he, if_pos he]; rfl
 have he : (imEnd s).e = 0 := by simpa [errOf_none] using h1
 refine AWP.skip (thenA_n (AWP.seq (sr fun _ => ?_)))
 refine mv ?_
 first | refine ρw ?_ | refine ρx ?_ | refine ARun.nilBox rfl rfl rfl rfl (ep rfl) ((hG.at _ _).trans rfl) optN ?_
 refine ρe (fo := 1) U107 sz4 ?_
 refine ARun.loadBox rfl rfl rfl rfl U4 rfl (ep rfl) ((hG.at _ _).trans rfl) rfl optN ?_
 refine ez ?_
 refine ρo (fun h2 => ?_) (fun h2 => ?_)
 · refine sr fun _ => ?_
   refine ARun.build rfl rfl rfl rfl so64 .nil rfl rfl optN ?_
   refine ρk cf22 (fun hg => new_fn tImage 5) ?_
   refine ρ8 sz64 ?_
   refine mz ?_
   refine AWP.ret (thenA_r ?_)
   refine ρB (rs := [.cell 2 64, .tmp 3]) (.cons (.cellA rfl ((hG.at _ _).trans rfl) U64 rfl sz64 rfl rfl) (.cons (.tmp rfl) .nil)) ?_
   have e1 : takeI s = Rep.zero := by rw [takeI, if_neg (by omega), if_pos h2]
   have e2 : takeIE s = Er.new tImage 5 := by rw [takeIE, if_neg (by omega), if_pos h2]
   rw [e1, e2]; rfl
 refine AWP.skip (thenA_n (AWP.seq (sr fun _ => ?_)))
 refine ρs U64 sz64 ?_
 refine ρf cf41 (fun hg => replica_fn (allQ (imSt s)) (all_small hok)) ?_
 refine mz (sr fun _ => ?_)
 refine mv ?_
 refine ρ6 ?_
 refine ez ?_
 refine ρo (fun h3 => ?_) (fun h3 => ?_)
 · have hr : replicaE (allQ (imSt s)) ≠ 0 := by simpa using h3
   refine sr fun _ => ?_
   refine ARun.build rfl rfl rfl rfl so64 .nil rfl rfl optN ?_
   refine mv ?_
   refine ρk cf22 (fun hg => new_fn tImage (replicaE (allQ (imSt s)))) ?_
   refine ρ8 sz64 ?_
   refine mz ?_
   refine AWP.ret (thenA_r ?_)
   refine ρB (rs := [.cell 2 64, .tmp 3]) (.cons (.cellA rfl ((hG.at _ _).trans rfl) U64 rfl sz64 rfl rfl) (.cons (.tmp rfl) .nil)) ?_
   have e1 : takeI s = Rep.zero := by rw [takeI, if_neg (by omega), if_neg (by rw [h2]; decide), if_pos hr]
   have e2 : takeIE s = Er.new tImage (replicaE (allQ (imSt s))) := by rw [takeIE, if_neg (by omega), if_neg (by rw [h2]; decide)]
   rw [e1, e2]; rfl
 have hr : replicaE (allQ (imSt s)) = 0 := by simpa using h3
 refine AWP.skip (thenA_n (sr fun _ => ?_))
 refine ρs U64 sz64 ?_
 refine ρ8 sz64 ?_
 refine mz ?_
 refine AWP.ret ?_
 refine ρB (rs := [.cell 2 64, .tmp 3]) (.cons (.cellA rfl ((hG.at _ _).trans rfl) U64 rfl sz64 rfl rfl) (.cons (.tmp rfl) .nil)) ?_
 have e1 : takeI s = (allQ (imSt s)) := by rw [takeI, if_neg (by omega), if_neg (by rw [h2]; decide), if_neg (by omega)]
 have e2 : takeIE s = Er.new tImage (replicaE (allQ (imSt s))) := by rw [takeIE, if_neg (by omega), if_neg (by rw [h2]; decide)]
 rw [e1, e2, hr]; rfl
end Go.Proofs.YtnlpojjfkgnhhaaGreatDoor
namespace Go.Proofs.YtnlpojjfkgnhhaaGreatDoor.CrcP
abbrev W := BitVec 32
def poly : W := 0x04c11db7#32
def step1 (n : W) : W := if n.msb then (n <<< 1) ^^^ poly else n <<< 1

theorem step1_xor (a b : W) : step1 (a ^^^ b) = step1 a ^^^ step1 b := by
 unfold step1
 rw [BitVec.msb_xor, BitVec.shiftLeft_xor_distrib]
 cases a.msb <;> cases b.msb <;> simp
 · ac_rfl
 · ac_rfl
 · rw [show (a <<< 1 ^^^ poly ^^^ (b <<< 1 ^^^ poly)) = (a <<< 1 ^^^ b <<< 1) ^^^ (poly ^^^ poly) by ac_rfl]; simp

theorem step1_zero : step1 0#32 = 0#32 := by decide

def inv1 (n : W) : W := if n.getLsbD 0 then ((n ^^^ poly) >>> 1) ||| 0x80000000#32 else n >>> 1

theorem inv1_step1 (n : W) : inv1 (step1 n) = n := by
 unfold step1 inv1
 have hm : n.msb = n.getLsbD 31 := by simp [BitVec.msb_eq_getLsbD_last]
 cases h : n.msb
 · simp
   apply BitVec.eq_of_getLsbD_eq
   intro i hi
   by_cases h31 : i = 31
   · subst h31; rw [← hm, h]; simp
   · simp; intro hh; omega
 · have : poly.getLsbD 0 = true := by decide
   simp [this]
   rw [BitVec.xor_assoc, BitVec.xor_self, BitVec.xor_zero]
   apply BitVec.eq_of_getLsbD_eq
   intro i hi
   by_cases h31 : i = 31
   · subst h31; rw [← hm, h]; simp
   · have : (0x80000000#32).getLsbD i = false := by
       have : ∀ j : Fin 32, j.val ≠ 31 → (0x80000000#32).getLsbD j.val = false := by decide
       exact this ⟨i, hi⟩ h31
     simp [this]; intro hh; omega

theorem step1_inj {a b : W} (h : step1 a = step1 b) : a = b := by
 have := congrArg inv1 h
 rwa [inv1_step1, inv1_step1] at this

def stepN : Nat → W → W
 | 0, n => n
 | k + 1, n => stepN k (step1 n)

theorem stepN_xor (k : Nat) : ∀ a b, stepN k (a ^^^ b) = stepN k a ^^^ stepN k b := by
 induction k with
 | zero => intro a b; rfl
 | succ k ih => intro a b; simp only [stepN, step1_xor, ih]

theorem stepN_inj (k : Nat) : ∀ {a b : W}, stepN k a = stepN k b → a = b := by
 induction k with
 | zero => intro a b h; exact h
 | succ k ih => intro a b h; exact step1_inj (ih h)

theorem stepN_zero (k : Nat) : stepN k 0#32 = 0#32 := by
 induction k with
 | zero => rfl
 | succ k ih => simp only [stepN, step1_zero, ih]

theorem stepN_add (j k : Nat) : ∀ n, stepN (j + k) n = stepN k (stepN j n) := by
 induction j with
 | zero => intro n; simp [stepN]
 | succ j ih => intro n; rw [Nat.succ_add]; simp only [stepN, ih]

def byte (n : W) (b : UInt8) : W := stepN 8 (n ^^^ (BitVec.ofNat 32 b.toNat <<< 24))
def on (n : W) (l : List UInt8) : W := l.foldl byte n

theorem on_append (n : W) (a b : List UInt8) : on n (a ++ b) = on (on n a) b := by simp [on]

theorem step4_split (s : W) : stepN 4 s = (s <<< 4) ^^^ stepN 4 ((s >>> 28) <<< 28) := by
 have h : s = (s &&& 0x0fffffff#32) ^^^ ((s >>> 28) <<< 28) := by
   apply BitVec.eq_of_getLsbD_eq
   intro i hi
   have hb : (0x0fffffff#32).getLsbD i = decide (i < 28) := by
     have : ∀ j : Fin 32, (0x0fffffff#32).getLsbD j.val = decide (j.val < 28) := by decide
     exact this ⟨i, hi⟩
   simp [hb]
   by_cases h28 : i < 28
   · simp [h28]
   · simp [h28, hi]; congr 1; omega
 have h2 : ∀ k, k ≤ 4 → stepN k (s &&& 0x0fffffff#32) = (s &&& 0x0fffffff#32) <<< k := by
   intro k
   induction k with
   | zero => intro _; simp [stepN]
   | succ k ih =>
     intro hk
     rw [stepN_add k 1, ih (by omega)]
     have hm : ((s &&& 0x0fffffff#32) <<< k).msb = false := by
       have hb : (0x0fffffff#32).getLsbD (31 - k) = false := by
         have : ∀ j : Fin 4, (0x0fffffff#32).getLsbD (31 - j.val) = false := by decide
         exact this ⟨k, by omega⟩
       rw [BitVec.msb_eq_getLsbD_last]
       simp only [BitVec.getLsbD_shiftLeft, BitVec.getLsbD_and, hb, Bool.and_false]
     simp only [stepN, step1, hm]
     simp [← BitVec.shiftLeft_add]
 conv => lhs; rw [h]
 rw [stepN_xor, h2 4 (Nat.le_refl _)]
 congr 1
 apply BitVec.eq_of_getLsbD_eq
 intro i hi
 have hb : 4 ≤ i → (0x0fffffff#32).getLsbD (i - 4) = true := by
   intro h4
   have : ∀ j : Fin 28, (0x0fffffff#32).getLsbD j.val = true := by decide
   exact this ⟨i - 4, by omega⟩
 simp only [BitVec.getLsbD_shiftLeft, BitVec.getLsbD_and]
 by_cases h4 : i < 4
 · simp [h4]
 · simp [hb (by omega)]

theorem lo24 (u : W) : u ^^^ ((u >>> 24) <<< 24) = u &&& 0x00ffffff#32 := by
 apply BitVec.eq_of_getLsbD_eq
 intro i hi
 have hb : (0x00ffffff#32).getLsbD i = decide (i < 24) := by
   have : ∀ j : Fin 32, (0x00ffffff#32).getLsbD j.val = decide (j.val < 24) := by decide
   exact this ⟨i, hi⟩
 simp [hb]
 by_cases h : i < 24
 · simp [h]
 · simp [h, hi, show 24 + (i - 24) = i by omega]

theorem stepN_lo (m : W) (k : Nat) (h : ∀ j, j < k → m.getLsbD (31 - j) = false) : k ≤ 32 → ∀ j, j ≤ k → stepN j m = m <<< j := by
 intro hk j
 induction j with
 | zero => intro _; simp [stepN]
 | succ j ih =>
   intro hj
   rw [stepN_add j 1, ih (by omega)]
   have hm : (m <<< j).msb = false := by
     rw [BitVec.msb_eq_getLsbD_last]
     simp only [BitVec.getLsbD_shiftLeft, h j (by omega), Bool.and_false]
   simp only [stepN, step1, hm]
   simp [← BitVec.shiftLeft_add]

theorem step8_lo (u : W) : stepN 8 (u ^^^ ((u >>> 24) <<< 24)) = u <<< 8 := by
 rw [lo24]
 rw [stepN_lo _ 8 ?_ (by omega) 8 (Nat.le_refl _)]
 · apply BitVec.eq_of_getLsbD_eq
   intro i hi
   simp only [BitVec.getLsbD_shiftLeft, BitVec.getLsbD_and]
   by_cases h8 : i < 8
   · simp [h8]
   · have hb : (0x00ffffff#32).getLsbD (i - 8) = true := by
       have : ∀ j : Fin 24, (0x00ffffff#32).getLsbD j.val = true := by decide
       exact this ⟨i - 8, by omega⟩
     simp [hb]
 · intro j hj
   have : ∀ j : Fin 8, (0x00ffffff#32).getLsbD (31 - j.val) = false := by decide
   simp only [BitVec.getLsbD_and, this ⟨j, hj⟩, Bool.and_false]

def be4 (t : W) : List UInt8 := [UInt8.ofNat (t.toNat / 16777216), UInt8.ofNat (t.toNat / 65536), UInt8.ofNat (t.toNat / 256), UInt8.ofNat t.toNat]

theorem xor_swap (a b c : W) : a ^^^ b ^^^ c = a ^^^ c ^^^ b := by rw [BitVec.xor_assoc, BitVec.xor_comm b c, ← BitVec.xor_assoc]
theorem byte_affine (n d : W) (b : UInt8) : byte (n ^^^ d) b = byte n b ^^^ stepN 8 d := by
 unfold byte
 rw [← stepN_xor, xor_swap]

theorem on_affine (l : List UInt8) : ∀ n d, on (n ^^^ d) l = on n l ^^^ stepN (8 * l.length) d := by
 induction l with
 | nil => intro n d; rfl
 | cons b l ih =>
   intro n d
   show on (byte (n ^^^ d) b) l = on (byte n b) l ^^^ _
   rw [byte_affine, ih, ← stepN_add]
   congr 2
   simp; omega

theorem byte_of (t : W) (k : Nat) : BitVec.ofNat 32 (UInt8.ofNat (t.toNat / 2 ^ k)).toNat <<< 24 = (t >>> k) <<< 24 := by
 apply BitVec.eq_of_getLsbD_eq
 intro i hi
 simp only [BitVec.getLsbD_shiftLeft, hi, decide_true, Bool.true_and]
 by_cases h : i < 24
 · simp [h]
 · simp only [h, decide_false, Bool.not_false, Bool.true_and]
   rw [BitVec.getLsbD_ofNat, BitVec.getLsbD_ushiftRight]
   have e : (UInt8.ofNat (t.toNat / 2 ^ k)).toNat = (t.toNat >>> k) % 2 ^ 8 := by
     rw [UInt8.toNat_ofNat', Nat.shiftRight_eq_div_pow]
   rw [e, Nat.testBit_mod_two_pow, Nat.testBit_shiftRight]
   simp [show i - 24 < 32 by omega, show i - 24 < 8 by omega, BitVec.getLsbD]

theorem on_zero_be4 (t : W) : on 0#32 (be4 t) = stepN 32 t := by
 have e3 := byte_of t 24
 have e2 := byte_of t 16
 have e1 := byte_of t 8
 have e0 := byte_of t 0
 simp only [Nat.reducePow, Nat.div_one] at e3 e2 e1 e0
 unfold on be4
 simp only [List.foldl_cons, List.foldl_nil]
 unfold byte
 rw [e3, e2, e1, e0, BitVec.zero_xor]
 have a1 : stepN 8 ((t >>> 24) <<< 24) = stepN 8 t ^^^ (t <<< 8) := by
   have := step8_lo t
   rw [stepN_xor] at this
   rw [← this, ← BitVec.xor_assoc, BitVec.xor_self, BitVec.zero_xor]
 have sh : ∀ k : Nat, k ≤ 24 → (t >>> (24 - k)) <<< 24 = ((t <<< k) >>> 24) <<< 24 := by
   intro k hk
   apply BitVec.eq_of_getLsbD_eq
   intro i hi
   simp only [BitVec.getLsbD_shiftLeft, BitVec.getLsbD_ushiftRight, hi, decide_true, Bool.true_and]
   by_cases h : i < 24
   · simp [h]
   · simp [show 24 + (i - 24) = i by omega, show 24 - k + (i - 24) = i - k by omega, h, hi]; intro _; omega
 have st : ∀ (r : W) (k : Nat), k ≤ 24 → stepN 8 ((r ^^^ (t <<< k)) ^^^ (t >>> (24 - k)) <<< 24) = stepN 8 r ^^^ (t <<< (k + 8)) := by
   intro r k hk
   rw [sh k hk, BitVec.xor_assoc, stepN_xor, step8_lo, ← BitVec.shiftLeft_add]
 rw [a1]
 have s1 := st (stepN 8 t) 8 (by omega)
 simp only [Nat.reduceSub, Nat.reduceAdd] at s1
 rw [s1, ← stepN_add]
 have s2 := st (stepN (8 + 8) t) 16 (by omega)
 simp only [Nat.reduceSub, Nat.reduceAdd] at s2
 rw [s2, ← stepN_add]
 have s3 := st (stepN (8 + 8 + 8) t) 24 (by omega)
 simp only [Nat.reduceSub, Nat.reduceAdd] at s3
 rw [s3, ← stepN_add]
 simp

theorem on_be4 (s t : W) : on s (be4 t) = stepN 32 (s ^^^ t) := by
 have := on_affine (be4 t) 0#32 s
 rw [BitVec.zero_xor] at this
 rw [this, on_zero_be4, stepN_xor]
 simp [be4, BitVec.xor_comm]

theorem on_four_iff (s : W) (l : List UInt8) (hl : l.length = 4) : on s l = 0#32 ↔ l = be4 s := by
 constructor
 · intro h
   obtain ⟨a, b, c, d, rfl⟩ : ∃ a b c d, l = [a, b, c, d] := by
     match l, hl with
     | [a, b, c, d], _ => exact ⟨a, b, c, d, rfl⟩
   have e : [a, b, c, d] = be4 (BitVec.ofNat 32 (a.toNat * 16777216 + b.toNat * 65536 + c.toNat * 256 + d.toNat)) := by
     have ha := a.toNat_lt; have hb := b.toNat_lt; have hc := c.toNat_lt; have hd := d.toNat_lt
     unfold be4
     rw [BitVec.toNat_ofNat, Nat.mod_eq_of_lt (by omega)]
     simp only [List.cons.injEq, and_true]
     refine ⟨?_, ?_, ?_, ?_⟩ <;> apply UInt8.toNat_inj.1 <;> rw [UInt8.toNat_ofNat'] <;> omega
   rw [e] at h ⊢
   rw [on_be4] at h
   have := stepN_inj 32 (h.trans (stepN_zero 32).symm)
   rw [BitVec.xor_eq_zero_iff.1 this]
 · rintro rfl
   rw [on_be4, BitVec.xor_self, stepN_zero]

def hb (j : Nat) : W := (0x80000000#32) >>> j

def top (p : W) : Nat → W
 | 0 => 0#32
 | i + 1 => if p.getLsbD (31 - i) then top p i ^^^ hb i else top p i

end Go.Proofs.YtnlpojjfkgnhhaaGreatDoor.CrcP
namespace Go.Proofs.YtnlpojjfkgnhhaaGreatDoor.CrcT
open Go.ChangeShapes Go.WideShapes Go.ChangeAt Go.RowKit
open CrcP
def tn (x : W) : Int := (x.toNat : Int)
def bs (l : List UInt8) : ByteArray := ⟨l.toArray⟩
def bl (s : ByteArray) : List UInt8 := s.data.toList
@[go_sem] theorem bs_toList (l : List UInt8) : (bs l).toList = l := ByteArray.toList_mk l
@[go_sem] theorem bs_size (l : List UInt8) : (bs l).size = l.length := rfl
theorem bl_bs (l : List UInt8) : bl (bs l) = l := rfl
theorem bs_bl (s : ByteArray) : bs (bl s) = s := rfl
theorem bl_len (s : ByteArray) : (bl s).length = s.size := Array.length_toList
theorem ret_str {a b : ByteArray} (h : a = b) : Ending.returned (.string a) = .returned (.string b) := by rw [h]
theorem ret_int {k : IntKind} {a b : Int} (h : a = b) : Ending.returned (.int k a) = .returned (.int k b) := by rw [h]
theorem bl_take_succ (s : ByteArray) (k : Nat) (h : k < s.size) : (bl s).take (k + 1) = (bl s).take k ++ [s[k]] := by
 unfold bl; rw [List.take_succ_eq_append_getElem (by simpa using h)]; rfl
theorem bl_take_all (s : ByteArray) : (bl s).take s.size = bl s := List.take_of_length_le (by rw [bl_len]; exact Nat.le_refl _)
theorem bl_append (s t : ByteArray) : bl (s ++ t) = bl s ++ bl t := by simp [bl]
theorem bs_append (s t : List UInt8) : bs s ++ bs t = bs (s ++ t) := by
 apply ByteArray.ext; simp [bs]
theorem tn_bd (x : W) : 0 ≤ tn x ∧ tn x ≤ 4294967295 := by have := x.isLt; unfold tn; omega
theorem byte_bd (b : UInt8) : (b.toNat : Int) ≤ 255 := by have := b.toNat_lt; omega
theorem xorW (a b : W) : bits .xor .u32 (tn a) (tn b) = tn (a ^^^ b) := by
 unfold tn; rw [u32_xor_nat a.toNat b.toNat a.isLt b.isLt, BitVec.toNat_xor]
theorem byteW (b : UInt8) : (b.toNat : Int) * (16777216 : Int) = tn (BitVec.ofNat 32 b.toNat <<< 24) := by
 have := b.toNat_lt
 unfold tn
 rw [BitVec.toNat_shiftLeft, BitVec.toNat_ofNat, Nat.shiftLeft_eq, Nat.mod_eq_of_lt (by omega), Nat.mod_eq_of_lt (by omega)]
 omega
theorem stepN_nil (n : W) : stepN 0 n = n := rfl
theorem stepN_last (k : Nat) (n : W) : stepN (k + 1) n = step1 (stepN k n) := by rw [stepN_add k 1]; rfl
theorem msb_tn (x : W) : x.msb = decide (2147483648 ≤ tn x) := by
 rw [BitVec.msb_eq_decide]; unfold tn; simp; omega
theorem poly_tn : (79764919 : Int) = tn poly := by decide
theorem step1_hi (x : W) (h : 2147483648 ≤ tn x) : bits .xor .u32 (tn x * 2 % 4294967296) 79764919 = tn (step1 x) := by
 have e : tn x * (2 : Int) % (4294967296 : Int) = tn (x <<< 1) := by
   unfold tn; rw [BitVec.toNat_shiftLeft, Nat.shiftLeft_eq]; omega
 rw [e, poly_tn, xorW, step1, if_pos (by rw [msb_tn]; simpa using h)]
theorem step1_lo (x : W) (h : ¬ 2147483648 ≤ tn x) : tn x * 2 = tn (step1 x) := by
 have e : tn x * (2 : Int) = tn (x <<< 1) := by
   unfold tn at *; rw [BitVec.toNat_shiftLeft, Nat.shiftLeft_eq]; omega
 rw [e, step1, if_neg (by rw [msb_tn]; simpa using h)]

/-! four bytes -/
theorem conv4 (w : World) (a b c d : Int) : (convert 86 9 (.slice (some ⟨w.heap.size, 0, none⟩) 4 4)).run Tryz.prog
   (w.alloc (.cells #[.int .u8 a, .int .u8 b, .int .u8 c, .int .u8 d] 5)) = .ok (.string (strOfNums [a, b, c, d])) (w.alloc (.cells #[.int .u8 a, .int .u8 b, .int .u8 c, .int .u8 d] 5)) := by
 refine run_convert_bytes_arg _ 86 5 U86 U5 _ 0 4 4 [a, b, c, d] rfl ?_ _ U9
 intro i hi
 match i, hi with
 | 0, _ => simp
 | 1, _ => simp
 | 2, _ => simp
 | 3, _ => simp

theorem four_val (n : W) : strOfNums [tn n / 16777216, tn n / 65536 % 256, tn n / 256 % 256, tn n % 256] = bs (be4 n) := by
 unfold strOfNums bs be4
 have h := n.isLt
 have e : ∀ k m : Nat, m = k → UInt8.ofNat m = UInt8.ofNat k := fun k m h => by rw [h]
 have e2 : ∀ k m : Nat, m = k % 256 → UInt8.ofNat m = UInt8.ofNat k := fun k m h => by
   apply UInt8.toNat_inj.1; rw [UInt8.toNat_ofNat', UInt8.toNat_ofNat']; omega
 congr 2
 simp only [List.map_cons, List.map_nil, List.cons.injEq, and_true]
 unfold tn
 exact ⟨e _ _ (by omega), e2 _ _ (by omega), e2 _ _ (by omega), e2 _ _ (by omega)⟩

theorem four_any (n : W) (w : World) : Calls Tryz.prog 128 #[.int .u32 (tn n)] w fun e w' => e = .returned (.string (bs (be4 n))) ∧ Below w.heap.size w w' := by
 have hn := tn_bd n
 have hc := conv4 w
 go_enter Tryz.func128, Tryz.ntmps128
 go_wp2
 go_ret
 exact ⟨ret_str (four_val n), (Below.refl _ _).alloc (Nat.le_refl _) _⟩
/-! the table of half bytes -/
def half (i : Nat) : W := stepN 4 (BitVec.ofNat 32 i <<< 28)
def tabv : Value := .agg #[.int .u32 (tn (half 0)), .int .u32 (tn (half 1)), .int .u32 (tn (half 2)), .int .u32 (tn (half 3)), .int .u32 (tn (half 4)), .int .u32 (tn (half 5)), .int .u32 (tn (half 6)), .int .u32 (tn (half 7)), .int .u32 (tn (half 8)), .int .u32 (tn (half 9)), .int .u32 (tn (half 10)), .int .u32 (tn (half 11)), .int .u32 (tn (half 12)), .int .u32 (tn (half 13)), .int .u32 (tn (half 14)), .int .u32 (tn (half 15))]
theorem half_start (i : Nat) (h : i < 16) : (i : Int) * (268435456 : Int) = tn (stepN 0 (BitVec.ofNat 32 i <<< 28)) := by
 rw [stepN_nil]; unfold tn
 rw [BitVec.toNat_shiftLeft, BitVec.toNat_ofNat, Nat.shiftLeft_eq, Nat.mod_eq_of_lt (by omega), Nat.mod_eq_of_lt (by omega)]
 omega
set_option maxHeartbeats 400000 in
theorem halves_any (w : World) : Calls Tryz.prog 170 #[] w fun e w' => e = .returned tabv ∧ Below w.heap.size w w' := by
 go_enter Tryz.func170, Tryz.ntmps170
 go_wp2
 go_loopw [4] (fun v4 wr => ∃ (k : Nat) (c : Array Value), k ≤ 16 ∧ v4 = .int .i64 k ∧ c.size = 16 ∧ (∀ j, j < k → c[j]? = some (.int .u32 (tn (half j)))) ∧ wr = (w.alloc (.cells #[.int .u32 0, .int .u32 0, .int .u32 0, .int .u32 0, .int .u32 0, .int .u32 0, .int .u32 0, .int .u32 0, .int .u32 0, .int .u32 0, .int .u32 0, .int .u32 0, .int .u32 0, .int .u32 0, .int .u32 0, .int .u32 0] 265)).alloc (.cells c 265)) (fun v4 _ => 16 - (intOf v4).toNat)
 case atStart => exact ⟨0, _, by omega, rfl, rfl, by intro j hj; omega, rfl⟩
 case round =>
   obtain ⟨k, c, hk, rfl, hc, hcs, rfl⟩ := hrel
   have HC : Hid (∀ j, j < k → c[j]? = some (.int .u32 (tn (half j)))) := hcs
   clear hcs
   by_cases hlt : k < 16
   · have hs := half_start k hlt
     go_wp2
     go_loop [3, 10] (fun v3 v10 => ∃ j : Nat, j ≤ 4 ∧ v10 = .int .i64 j ∧ v3 = .int .u32 (tn (stepN j (BitVec.ofNat 32 k <<< 28)))) (fun _ v10 => 4 - (intOf v10).toNat)
     case atStart => exact ⟨0, by omega, rfl, rfl⟩
     case round =>
       obtain ⟨j, hj, rfl, rfl⟩ := hrel
       have hl := stepN_last j (BitVec.ofNat 32 k <<< 28)
       generalize hX0 : stepN j (BitVec.ofNat 32 k <<< 28) = X at hl ⊢
       have hX : Hid (stepN j (BitVec.ofNat 32 k <<< 28) = X) := hX0
       clear hX0 hs
       have HL : Hid (stepN (j + 1) (BitVec.ofNat 32 k <<< 28) = step1 X) := hl
       clear hl
       have hx := tn_bd X
       by_cases h4 : j < 4
       · by_cases hm : 2147483648 ≤ tn X
         · have ht : (tn X / 2147483648 == 1) = true := by rw [beq_iff_eq]; omega
           go_wp2
           go_round
           case rel => exact ⟨j + 1, by omega, by go_num, by rw [HL.out, step1_hi X hm]⟩
           case measure => simp [intOf]; omega
         · have ht : (tn X / 2147483648 == 1) = false := by rw [beq_eq_false_iff_ne]; omega
           go_wp2
           go_round
           case rel => exact ⟨j + 1, by omega, by go_num, by rw [HL.out, step1_lo X hm]⟩
           case measure => simp [intOf]; omega
       · obtain rfl : j = 4 := by omega
         have hX2 : X = half k := hX.out.symm
         subst hX2
         clear HL hX
         go_wp2
         refine ⟨⟨k + 1, _, by omega, by go_num, ?_, ?_, rfl⟩, by simp [intOf]; omega⟩
         · rw [Array.size_setIfInBounds]; exact hc
         · intro j hj
           by_cases e : j = k
           · subst e; rw [Array.getElem?_setIfInBounds_self_of_lt (by omega)]
           · rw [Array.getElem?_setIfInBounds_ne (by omega)]; exact HC.out j (by omega)
   · obtain rfl : k = 16 := by omega
     have hc16 : c = #[.int .u32 (tn (half 0)), .int .u32 (tn (half 1)), .int .u32 (tn (half 2)), .int .u32 (tn (half 3)), .int .u32 (tn (half 4)), .int .u32 (tn (half 5)), .int .u32 (tn (half 6)), .int .u32 (tn (half 7)), .int .u32 (tn (half 8)), .int .u32 (tn (half 9)), .int .u32 (tn (half 10)), .int .u32 (tn (half 11)), .int .u32 (tn (half 12)), .int .u32 (tn (half 13)), .int .u32 (tn (half 14)), .int .u32 (tn (half 15))] := by
       apply Array.ext_getElem?
       intro i
       by_cases hi : i < 16
       · rw [HC.out i hi]
         match i, hi with
         | 0, _ => rfl
         | 1, _ => rfl
         | 2, _ => rfl
         | 3, _ => rfl
         | 4, _ => rfl
         | 5, _ => rfl
         | 6, _ => rfl
         | 7, _ => rfl
         | 8, _ => rfl
         | 9, _ => rfl
         | 10, _ => rfl
         | 11, _ => rfl
         | 12, _ => rfl
         | 13, _ => rfl
         | 14, _ => rfl
         | 15, _ => rfl
         | n + 16, h => exact absurd h (by omega)
       · rw [Array.getElem?_eq_none (by omega), Array.getElem?_eq_none (by simp; omega)]
     subst hc16
     clear HC hc hlt hk
     go_wp2
     refine bodyPost_ret (v := tabv) (by simp [results, Tryz.results170, go_sem, tabv]) rfl ⟨rfl, ?_⟩
     go_grown
end Go.Proofs.YtnlpojjfkgnhhaaGreatDoor.CrcT
namespace Go.Proofs.YtnlpojjfkgnhhaaGreatDoor.CrcT
open Go.ChangeShapes Go.WideShapes Go.ChangeAt Go.RowKit
open CrcP
theorem half_xor (Y : W) : bits .xor .u32 (tn Y * (16 : Int) % (4294967296 : Int)) (tn (half (tn Y / (268435456 : Int)).toNat)) = tn (stepN 4 Y) := by
 have e : tn Y * (16 : Int) % (4294967296 : Int) = tn (Y <<< 4) := by
   unfold tn; rw [BitVec.toNat_shiftLeft, Nat.shiftLeft_eq]; omega
 have h := Y.isLt
 have e2 : (tn Y / (268435456 : Int)).toNat = (Y >>> 28).toNat := by
   unfold tn; rw [BitVec.toNat_ushiftRight, Nat.shiftRight_eq_div_pow]; omega
 have e3 : half (Y >>> 28).toNat = stepN 4 ((Y >>> 28) <<< 28) := by
   unfold half; rw [BitVec.ofNat_toNat, BitVec.setWidth_eq]
 rw [e, e2, e3, xorW, ← step4_split Y]
theorem half_lt (Y : W) : (tn Y / (268435456 : Int)).toNat < 16 := by have := tn_bd Y; omega
def tab16 : Array Value := #[.int .u32 (tn (half 0)), .int .u32 (tn (half 1)), .int .u32 (tn (half 2)), .int .u32 (tn (half 3)), .int .u32 (tn (half 4)), .int .u32 (tn (half 5)), .int .u32 (tn (half 6)), .int .u32 (tn (half 7)), .int .u32 (tn (half 8)), .int .u32 (tn (half 9)), .int .u32 (tn (half 10)), .int .u32 (tn (half 11)), .int .u32 (tn (half 12)), .int .u32 (tn (half 13)), .int .u32 (tn (half 14)), .int .u32 (tn (half 15))]
theorem tab16_at (i : Nat) (hi : i < 16) : tab16[i]? = some (.int .u32 (tn (half i))) := by
 match i, hi with
 | 0, _ => rfl
 | 1, _ => rfl
 | 2, _ => rfl
 | 3, _ => rfl
 | 4, _ => rfl
 | 5, _ => rfl
 | 6, _ => rfl
 | 7, _ => rfl
 | 8, _ => rfl
 | 9, _ => rfl
 | 10, _ => rfl
 | 11, _ => rfl
 | 12, _ => rfl
 | 13, _ => rfl
 | 14, _ => rfl
 | 15, _ => rfl
 | n + 16, h => exact absurd h (by omega)
theorem tab_cell (w : World) (Y : W) : (w.alloc (.cells tab16 265)).cell? ⟨w.heap.size, (tn Y / (268435456 : Int)).toNat, none⟩ = some (.int .u32 (tn (half (tn Y / (268435456 : Int)).toNat))) := by
 rw [World.cell?_alloc_new, tab16_at _ (half_lt Y)]
set_option maxHeartbeats 400000 in
theorem on_any (a : Int) (n : W) (ha : a = tn n) (s : ByteArray) (w : World) (hs : s.size ≤ maxLen) :
   Calls Tryz.prog 153 #[.int .u32 a, .string s] w fun e w' => e = .returned (.int .u32 (tn (on n (bl s)))) ∧ Below w.heap.size w w' := by
 subst ha
 unfold maxLen at hs
 go_enter Tryz.func153, Tryz.ntmps153
 go_wp2_with fail
 refine (halves_any _).mono ?_
 rintro e w1 ⟨rfl, hb1⟩
 unfold tabv
 go_wp2_with fail
 have hcell := tab_cell w1
 unfold tab16 at hcell
 have hbel : Below w.heap.size w (w1.alloc (.cells tab16 265)) := hb1.alloc hb1.size _
 unfold tab16 at hbel
 generalize w1.alloc _ = W2 at hcell hbel ⊢
 have HC : Hid (∀ Y, W2.cell? ⟨w1.heap.size, (tn Y / (268435456 : Int)).toNat, none⟩ = some (.int .u32 (tn (half (tn Y / (268435456 : Int)).toNat)))) := hcell
 clear hcell
 go_loop [0, 6] (fun v0 v6 => ∃ k : Nat, k ≤ s.size ∧ v6 = .int .i64 k ∧ v0 = .int .u32 (tn (on n ((bl s).take k)))) (fun _ v6 => s.size - (intOf v6).toNat)
 case atStart => exact ⟨0, by omega, rfl, rfl⟩
 case round =>
   obtain ⟨k, hk, rfl, rfl⟩ := hrel
   by_cases hlt : k < s.size
   · have ht := bl_take_succ s k hlt
     have HT : Hid (on n ((bl s).take (k + 1)) = byte (on n ((bl s).take k)) s[k]) := by rw [ht, on_append]; rfl
     clear ht
     generalize on n ((bl s).take k) = X at HT ⊢
     have hX := tn_bd X
     have hb := byte_bd s[k]
     have e1 : bits .xor .u32 (tn X) ((s[k].toNat : Int) * (16777216 : Int)) = tn (X ^^^ (BitVec.ofNat 32 s[k].toNat <<< 24)) := by rw [byteW, xorW]
     have HB : Hid (byte X s[k] = stepN 4 (stepN 4 (X ^^^ (BitVec.ofNat 32 s[k].toNat <<< 24)))) := by unfold byte; exact stepN_add 4 4 _
     generalize X ^^^ (BitVec.ofNat 32 s[k].toNat <<< 24) = Y at e1 HB
     have hY := tn_bd Y
     have hc1 := HC.out Y
     have hh1 := half_xor Y
     generalize stepN 4 Y = Z at hh1 HB
     have hZ := tn_bd Z
     have hc2 := HC.out Z
     have hh2 := half_xor Z
     generalize stepN 4 Z = V at hh2 HB
     have hl1 := half_lt Y
     have hl2 := half_lt Z
     go_wp2
     go_round
     case rel => exact ⟨k + 1, by omega, by go_num, by rw [HT.out, HB.out]⟩
     case measure => simp [intOf]; omega
   · obtain rfl : k = s.size := by omega
     go_wp2
     go_ret
     exact ⟨ret_int (by rw [bl_take_all]), hbel⟩
end Go.Proofs.YtnlpojjfkgnhhaaGreatDoor.CrcT
namespace Go.Proofs.YtnlpojjfkgnhhaaGreatDoor.CrcT
open Go.ChangeShapes Go.WideShapes Go.ChangeAt Go.RowKit
open CrcP
def ini : W := 0xffffffff#32
def crc (l : List UInt8) : W := on ini l
def closed (l : List UInt8) : List UInt8 := l ++ be4 (crc l)
def opened (l : List UInt8) : List UInt8 × Int := if l.length < 4 then ([], 4) else if crc l ≠ 0#32 then ([], 7) else (l.take (l.length - 4), 0)
theorem be4_size (t : W) : (be4 t).length ≤ 4 := Nat.le_refl _
theorem ret_si {a b : ByteArray} {x y : Int} (h : a = b) (g : x = y) : Ending.returned (.tuple #[.string a, .int .i64 x]) = .returned (.tuple #[.string b, .int .i64 y]) := by rw [h, g]
theorem bl_extract (s : ByteArray) (a b : Nat) : bl (s.extract a b) = ((bl s).take b).drop a := by
 unfold bl; simp [ByteArray.data_extract, List.drop_take]
theorem bl_inj {s t : ByteArray} (h : bl s = bl t) : s = t := by
 apply ByteArray.ext; apply Array.toList_inj.1; exact h
theorem bl_extract0 (s : ByteArray) (b : Nat) : s.extract 0 b = bs ((bl s).take b) := by
 apply bl_inj; rw [bl_extract, bl_bs, List.drop_zero]
theorem ini_tn : (4294967295 : Int) = tn ini := by decide
theorem of_any (s : ByteArray) (w : World) (hs : s.size ≤ maxLen) :
   Calls Tryz.prog 129 #[.string s] w fun e w' => e = .returned (.int .u32 (tn (crc (bl s)))) ∧ Below w.heap.size w w' := by
 go_enter Tryz.func129, Tryz.ntmps129
 go_wp2_with fail
 refine (on_any _ ini ini_tn s _ hs).mono ?_
 rintro e w1 ⟨rfl, hb1⟩
 go_wp2_with fail
 go_ret
 exact ⟨rfl, hb1⟩
theorem closed_any (s : ByteArray) (w : World) (hs : s.size ≤ 1000000) :
   Calls Tryz.prog 95 #[.string s] w fun e w' => e = .returned (.string (bs (closed (bl s)))) ∧ Below w.heap.size w w' := by
 have hm : s.size ≤ maxLen := by unfold maxLen; omega
 go_enter Tryz.func95, Tryz.ntmps95
 go_wp2_with fail
 refine (of_any _ _ hm).mono ?_
 rintro e w1 ⟨rfl, hb1⟩
 go_wp2_with fail
 refine (four_any _ _).mono ?_
 rintro e w2 ⟨rfl, hb2⟩
 have hz := be4_size (crc (bl s))
 go_wp2_with fail
 go_ret
 refine ⟨ret_str ?_, hb1.trans (hb2.mono hb1.size)⟩
 rw [← bs_bl s, bs_append, bl_bs]; rfl
theorem opened_any (s : ByteArray) (w : World) (hs : s.size ≤ 1000000) :
   Calls Tryz.prog 127 #[.string s] w fun e w' => e = .returned (.tuple #[.string (bs (opened (bl s)).1), .int .i64 (opened (bl s)).2]) ∧ Below w.heap.size w w' := by
 have hm : s.size ≤ maxLen := by unfold maxLen; omega
 have hl := bl_len s
 by_cases h4 : s.size < 4
 · have hu : opened (bl s) = ([], 4) := by unfold opened; rw [if_pos (by omega)]
   rw [hu]
   clear hu hl
   go_enter Tryz.func127, Tryz.ntmps127
   go_wp2_with fail
   go_ret2
   exact ⟨rfl, Below.refl _ _⟩
 · by_cases hz : crc (bl s) = 0#32
   · have hu : opened (bl s) = ((bl s).take (s.size - 4), 0) := by unfold opened; rw [if_neg (by omega), if_neg (by simp [hz]), hl]
     rw [hu]
     have hz2 : (tn (crc (bl s)) != 0) = false := by rw [hz]; decide
     clear hu hl hz
     go_enter Tryz.func127, Tryz.ntmps127
     go_wp2_with fail
     refine (of_any _ _ hm).mono ?_
     rintro e w1 ⟨rfl, hb1⟩
     go_wp2_with fail
     go_ret2
     exact ⟨ret_si (bl_extract0 _ _) rfl, hb1⟩
   · have hu : opened (bl s) = ([], 7) := by unfold opened; rw [if_neg (by omega), if_pos hz]
     rw [hu]
     have hz2 : (tn (crc (bl s)) != 0) = true := by
       rw [bne_iff_ne]; intro h; apply hz; apply BitVec.eq_of_toNat_eq; unfold tn at h; simp; omega
     clear hu hl hz
     go_enter Tryz.func127, Tryz.ntmps127
     go_wp2_with fail
     refine (of_any _ _ hm).mono ?_
     rintro e w1 ⟨rfl, hb1⟩
     go_wp2_with fail
     go_ret2
     exact ⟨rfl, hb1⟩
end Go.Proofs.YtnlpojjfkgnhhaaGreatDoor.CrcT
namespace Go.Proofs.YtnlpojjfkgnhhaaGreatDoor.Fm
open NumP
abbrev closed := CrcT.closed
abbrev opened := CrcT.opened
theorem closed_len (l : List UInt8) : (closed l).length = l.length + 4 := by
 show (l ++ CrcP.be4 _).length = _
 rw [List.length_append]; rfl
theorem opened_closed (l : List UInt8) : opened (closed l) = (l, 0) := by
 have h0 : CrcT.crc (closed l) = 0#32 := by
   show CrcP.on _ (l ++ CrcP.be4 _) = _
   rw [CrcP.on_append]; exact (CrcP.on_four_iff _ _ rfl).2 rfl
 have hl := closed_len l
 show (if (closed l).length < 4 then _ else if CrcT.crc (closed l) ≠ 0#32 then _ else ((closed l).take ((closed l).length - 4), 0)) = _
 rw [if_neg (by omega), if_neg (by rw [h0]; simp), hl, show l.length + 4 - 4 = l.length by omega]
 show ((l ++ CrcP.be4 _).take _, (0 : Int)) = _
 simp
theorem closed_opened {x : List UInt8} (h : (opened x).2 = 0) : 4 ≤ x.length ∧ (opened x).1 = x.take (x.length - 4) ∧ x = closed (x.take (x.length - 4)) := by
 have e : opened x = (if x.length < 4 then ([], 4) else if CrcT.crc x ≠ 0#32 then ([], 7) else (x.take (x.length - 4), 0)) := rfl
 rw [e] at h
 split at h
 · simp at h
 · rename_i h4
   split at h
   · simp at h
   · rename_i hc
     refine ⟨by omega, by rw [e, if_neg h4, if_neg hc], ?_⟩
     have hx : x.take (x.length - 4) ++ x.drop (x.length - 4) = x := List.take_append_drop _ _
     have h0 : CrcT.crc x = 0#32 := by simpa using hc
     have h0 : CrcP.on CrcT.ini x = 0#32 := h0
     rw [← hx, CrcP.on_append] at h0
     have := (CrcP.on_four_iff _ _ (by rw [List.length_drop]; omega)).1 h0
     show x = x.take (x.length - 4) ++ CrcP.be4 _
     conv => lhs; rw [← hx]
     rw [this]; rfl
def frm (l : List UInt8) : List UInt8 := closed ((putN l.length).1 ++ l)
theorem putN_pos {n : Int} (h : 0 ≤ n) : 1 ≤ (putN n).1.length := by
 unfold putN; rw [if_neg (by omega)]; split <;> simp
theorem frm_len (l : List UInt8) : (frm l).length = (putN l.length).1.length + l.length + 4 := by unfold frm; rw [closed_len, List.length_append]
theorem frm_ge (l : List UInt8) : 5 + l.length ≤ (frm l).length := by have := frm_len l; have := putN_pos (n := l.length) (by omega); omega
def putF (b : ByteArray) : ByteArray × Int := if 20000 < b.size then (⟨#[]⟩, 3) else (bs (frm (bl b)), 0)
def getF (s : ByteArray) (p : Int) : ByteArray × Int × Int :=
 if (getN (bl s) p).2.2 ≠ 0 then (⟨#[]⟩, 0, (getN (bl s) p).2.2) else if 20000 < (getN (bl s) p).1 then (⟨#[]⟩, 0, 3) else
 if (s.size : Int) < (getN (bl s) p).2.1 + (getN (bl s) p).1 + 4 then (⟨#[]⟩, 0, 4) else
 if (opened (((bl s).take ((getN (bl s) p).2.1 + (getN (bl s) p).1 + 4).toNat).drop p.toNat)).2 ≠ 0 then (⟨#[]⟩, 0, (opened (((bl s).take ((getN (bl s) p).2.1 + (getN (bl s) p).1 + 4).toNat).drop p.toNat)).2) else
 (s.extract (getN (bl s) p).2.1.toNat ((getN (bl s) p).2.1 + (getN (bl s) p).1).toNat, (getN (bl s) p).2.1 + (getN (bl s) p).1 + 4, 0)
theorem getF_ok {s : ByteArray} {p : Int} (h : (getF s p).2.2 = 0) : 0 ≤ p ∧ (getF s p).1.size ≤ 20000 ∧ (getF s p).2.1 = p + ((frm (bl (getF s p).1)).length : Int) ∧ (getF s p).2.1 ≤ s.size ∧ ∃ r, (bl s).drop p.toNat = frm (bl (getF s p).1) ++ r := by
 have hlen := bl_len s
 have hx := get_least (bl s) p (getN (bl s) p).1 (getN (bl s) p).2.1
 unfold getF at h ⊢
 by_cases h1 : (getN (bl s) p).2.2 ≠ 0
 · rw [if_pos h1] at h; exact absurd h h1
 rw [if_neg h1] at h ⊢
 by_cases h2 : 20000 < (getN (bl s) p).1
 · rw [if_pos h2] at h; simp at h
 rw [if_neg h2] at h ⊢
 by_cases h3 : (s.size : Int) < (getN (bl s) p).2.1 + (getN (bl s) p).1 + 4
 · rw [if_pos h3] at h; simp at h
 rw [if_neg h3] at h ⊢
 obtain ⟨x0, x1, p0, pf, ft, hpn⟩ := hx (by rw [← Decidable.not_not.1 h1])
 generalize hX : (getN (bl s) p).1 = x at *
 generalize hT : (getN (bl s) p).2.1 = f at *
 by_cases h4 : (opened (((bl s).take (f + x + 4).toNat).drop p.toNat)).2 ≠ 0
 · rw [if_pos h4] at h; exact absurd h h4
 rw [if_neg h4] at h ⊢
 have h4 := Decidable.not_not.1 h4
 obtain ⟨q1, q2, q3⟩ := closed_opened h4
 have hb : bl (s.extract f.toNat (f + x).toNat) = ((bl s).take (f + x).toNat).drop f.toNat := bl_extract _ _ _
 have hbl : (bl (s.extract f.toNat (f + x).toNat)).length = x.toNat := by
   rw [hb, List.length_drop, List.length_take]; omega
 have hpl : (((bl s).take (f + x + 4).toNat).drop p.toNat).length = (f + x + 4).toNat - p.toNat := by
   rw [List.length_drop, List.length_take]; omega
 have hpt : (((bl s).take (f + x + 4).toNat).drop p.toNat).take ((((bl s).take (f + x + 4).toNat).drop p.toNat).length - 4) = (putN x).1 ++ bl (s.extract f.toNat (f + x).toNat) := by
   rw [hpl, ← hpn, hb, List.take_drop, List.take_take, show p.toNat + ((f + x + 4).toNat - p.toNat - 4) = (f + x).toNat by omega, Nat.min_eq_left (by omega)]
   exact cut_join _ _ _ _ (by omega) (by omega)
 rw [hpt] at q3
 have hfr : frm (bl (s.extract f.toNat (f + x).toNat)) = ((bl s).take (f + x + 4).toNat).drop p.toNat := by
   unfold frm; rw [hbl, show ((x.toNat : Nat) : Int) = x by omega]; exact q3.symm
 refine ⟨p0, ?_, ?_, ?_, ?_⟩
 · show (s.extract f.toNat (f + x).toNat).size ≤ 20000
   rw [← bl_len, hbl]; omega
 · show f + x + 4 = p + _
   rw [hfr, hpl]; omega
 · show f + x + 4 ≤ s.size; omega
 · show ∃ r, (bl s).drop p.toNat = frm (bl (s.extract f.toNat (f + x).toNat)) ++ r
   rw [hfr]
   refine ⟨(bl s).drop (f + x + 4).toNat, ?_⟩
   have := cut_join (bl s) p.toNat (f + x + 4).toNat (bl s).length (by omega) (by omega)
   rw [List.take_length] at this; exact this
theorem getF_mk {s : ByteArray} {p : Int} {b : ByteArray} {r : List UInt8} (hp : 0 ≤ p) (hp2 : p ≤ s.size) (hb : b.size ≤ 20000) (h : (bl s).drop p.toNat = frm (bl b) ++ r) : getF s p = (b, p + ((frm (bl b)).length : Int), 0) := by
 have hlen := bl_len s
 have hbl := bl_len b
 obtain ⟨k, rfl⟩ := Int.eq_ofNat_of_zero_le hp
 rw [Int.toNat_natCast] at h
 have hk : (bl s).take k ++ (bl s).drop k = bl s := List.take_append_drop _ _
 have hkl : ((bl s).take k).length = k := by rw [List.length_take]; omega
 have hs : bl s = (bl s).take k ++ ((putN b.size).1 ++ (bl b ++ (CrcP.be4 (CrcT.crc ((putN b.size).1 ++ bl b)) ++ r))) := by
   conv => lhs; rw [← hk, h]
   unfold frm
   rw [hbl]
   show _ ++ (((putN b.size).1 ++ bl b) ++ CrcP.be4 _ ++ r) = _
   simp [List.append_assoc]
 have hg : getN (bl s) (k : Int) = ((b.size : Int), (k : Int) + ((putN b.size).1.length : Int), 0) := by
   have := get_put ((bl s).take k) (bl b ++ (CrcP.be4 (CrcT.crc ((putN b.size).1 ++ bl b)) ++ r)) b.size (by omega) (by omega)
   rw [← hs, hkl] at this; exact this
 have hfl := frm_len (bl b)
 rw [hbl] at hfl
 have htot : k + (frm (bl b)).length ≤ s.size := by
   have : ((bl s).drop k).length = (frm (bl b)).length + r.length := by rw [h, List.length_append]
   rw [List.length_drop] at this; omega
 have hpc : ((bl s).take (k + (frm (bl b)).length)).drop k = frm (bl b) := by
   rw [List.drop_take, h, show k + (frm (bl b)).length - k = (frm (bl b)).length by omega, List.take_left]
 have hto : ((k : Int) + ((putN b.size).1.length : Int) + (b.size : Int) + 4).toNat = k + (frm (bl b)).length := by omega
 unfold getF
 rw [hg]
 dsimp only
 rw [if_neg (by simp), if_neg (by omega), if_neg (by omega), hto, Int.toNat_natCast, hpc, show (opened (frm (bl b))).2 = 0 from by unfold frm; rw [opened_closed], if_neg (by simp)]
 refine Prod.ext ?_ (Prod.ext ?_ rfl)
 · apply bl_inj
   show bl (s.extract _ _) = bl b
   rw [bl_extract]
   have e1 : ((k : Int) + ((putN b.size).1.length : Int)).toNat = k + (putN b.size).1.length := by omega
   have e2 : ((k : Int) + ((putN b.size).1.length : Int) + (b.size : Int)).toNat = k + (putN b.size).1.length + b.size := by omega
   rw [e1, e2, List.drop_take, show k + (putN b.size).1.length + b.size - (k + (putN b.size).1.length) = b.size by omega, ← List.drop_drop, h]
   unfold frm
   rw [hbl]
   show ((((putN b.size).1 ++ bl b) ++ CrcP.be4 _ ++ r).drop _).take _ = _
   rw [List.append_assoc, List.append_assoc, List.drop_left, ← hbl, List.take_left]
 · show (k : Int) + ((putN b.size).1.length : Int) + (b.size : Int) + 4 = k + ((frm (bl b)).length : Int)
   omega
def frs (s : ByteArray) : Nat → Int → List (Int × ByteArray)
 | 0, _ => []
 | k + 1, p => if (getF s p).2.2 = 0 then ((getF s p).2.1, (getF s p).1) :: frs s k (getF s p).2.1 else []
def lastTo (xs : List (Int × ByteArray)) : Int := xs.foldl (fun _ x => x.1) 0
theorem lastTo_snoc (xs : List (Int × ByteArray)) (x : Int × ByteArray) : lastTo (xs ++ [x]) = x.1 := by unfold lastTo; rw [List.foldl_append]; rfl
def allX (s : ByteArray) : List (Int × ByteArray) := frs s (s.size + 1) 0
def allP (s : ByteArray) : List ByteArray × Int := ((allX s).map (·.2), lastTo (allX s))
theorem frs_step {s : ByteArray} {k : Nat} {p : Int} (h : (getF s p).2.2 = 0) : frs s (k + 1) p = ((getF s p).2.1, (getF s p).1) :: frs s k (getF s p).2.1 := if_pos h
theorem frs_stop {s : ByteArray} {p : Int} (h : (getF s p).2.2 ≠ 0) : ∀ k, frs s k p = []
 | 0 => rfl
 | k + 1 => if_neg h
theorem getF_lt {s : ByteArray} {p : Int} (h : (getF s p).2.2 = 0) : 0 ≤ p ∧ p + 5 ≤ (getF s p).2.1 ∧ (getF s p).2.1 ≤ s.size := by
 obtain ⟨h1, _, h2, h3, _⟩ := getF_ok h
 have := frm_ge (bl (getF s p).1)
 omega
theorem frs_zero {s : ByteArray} {p : Int} (h : 0 ≤ p) (h2 : s.size < p) : ∀ k, frs s k p = [] := frs_stop fun e => by have := getF_lt e; omega
theorem frs_more {s : ByteArray} : ∀ (k j : Nat) (p : Int), 0 ≤ p → (s.size : Int) < p + 5 * k → frs s (k + j) p = frs s k p := by
 intro k
 induction k with
 | zero => intro j p h0 h; exact frs_zero h0 (by omega) _
 | succ k ih =>
   intro j p h0 h
   by_cases e : (getF s p).2.2 = 0
   · have hlt := getF_lt e
     rw [show k + 1 + j = (k + j) + 1 by omega, frs_step e, frs_step e, ih j _ (by omega) (by omega)]
   · rw [frs_stop e, frs_stop e]
theorem frs_len {s : ByteArray} : ∀ (k : Nat) (p : Int), 0 ≤ p → p ≤ s.size → 5 * ((frs s k p).length : Int) + p ≤ s.size := by
 intro k
 induction k with
 | zero => intro p h0 h1; simpa [frs] using h1
 | succ k ih =>
   intro p h0 h1
   by_cases e : (getF s p).2.2 = 0
   · have hlt := getF_lt e
     have := ih (getF s p).2.1 (by omega) (by omega)
     rw [frs_step e, List.length_cons]; omega
   · rw [frs_stop e]; simpa using h1
theorem allX_len (s : ByteArray) : 5 * (allX s).length ≤ s.size := by have := frs_len (s := s) (s.size + 1) 0 (by omega) (by omega); unfold allX; omega
theorem frs_go {s : ByteArray} {k : Nat} {p : Int} (h0 : 0 ≤ p) (hk : (s.size : Int) < p + 5 * (k + 1)) (e : (getF s p).2.2 = 0) : frs s (k + 1) p = ((getF s p).2.1, (getF s p).1) :: frs s (k + 1) (getF s p).2.1 := by
 have hlt := getF_lt e
 rw [frs_step e, frs_more k 1 _ (by omega) (by omega)]
def At (s : ByteArray) (pre : List (Int × ByteArray)) (p : Int) : Prop := 0 ≤ p ∧ p ≤ s.size ∧ p = lastTo pre ∧ pre ++ frs s (s.size + 1) p = allX s
theorem at_start (s : ByteArray) : At s [] 0 := ⟨by omega, by omega, rfl, rfl⟩
theorem at_go {s : ByteArray} {pre : List (Int × ByteArray)} {p : Int} (h : At s pre p) (e : (getF s p).2.2 = 0) : At s (pre ++ [((getF s p).2.1, (getF s p).1)]) (getF s p).2.1 := by
 obtain ⟨h0, h1, h2, h3⟩ := h
 have hlt := getF_lt e
 refine ⟨by omega, by omega, (lastTo_snoc pre ((getF s p).2.1, (getF s p).1)).symm, ?_⟩
 rw [← h3, List.append_assoc, frs_go h0 (by omega) e]; rfl
theorem at_stop {s : ByteArray} {pre : List (Int × ByteArray)} {p : Int} (h : At s pre p) (e : (getF s p).2.2 ≠ 0) : pre = allX s ∧ p = lastTo (allX s) := by
 obtain ⟨_, _, h2, h3⟩ := h
 rw [frs_stop e, List.append_nil] at h3
 exact ⟨h3, by rw [← h3]; exact h2⟩
theorem at_len {s : ByteArray} {pre : List (Int × ByteArray)} {p : Int} (h : At s pre p) : 5 * pre.length ≤ s.size := by
 have := allX_len s
 rw [← h.2.2.2, List.length_append] at this; omega
def joinP (l : List ByteArray) : ByteArray × Int := if (l.all fun b => decide (b.size ≤ 20000)) = true then (bs (l.flatMap fun b => frm (bl b)), 0) else (⟨#[]⟩, 3)
end Go.Proofs.YtnlpojjfkgnhhaaGreatDoor.Fm
namespace Go.Proofs.YtnlpojjfkgnhhaaGreatDoor
open Go.RowKit
theorem cf49 : ∀ (vs : Array Value) (W : World), (callFunc 49 vs).run Tryz.prog W = .ok (.enter 49 vs) W := fun _ _ => by rfl
theorem cf95 : ∀ (vs : Array Value) (W : World), (callFunc 95 vs).run Tryz.prog W = .ok (.enter 95 vs) W := fun _ _ => by rfl
theorem cf127 : ∀ (vs : Array Value) (W : World), (callFunc 127 vs).run Tryz.prog W = .ok (.enter 127 vs) W := fun _ _ => by rfl

end Go.Proofs.YtnlpojjfkgnhhaaGreatDoor
namespace Go.Proofs.YtnlpojjfkgnhhaaGreatDoor.Fm
open Go.RowKit
open NumP
theorem seal_fn (s : ByteArray) (hs : s.size ≤ 1000000) : FnP Tryz.prog 95 [.str s] (.str (bs (closed (bl s)))) :=
 FnP.of_calls rfl (by simp) (by simp) fun w => (CrcT.closed_any s w hs).mono fun e w' ⟨h1, h2⟩ => ⟨_, h1, h2, .str _⟩
theorem unseal_fn (s : ByteArray) (hs : s.size ≤ 1000000) : FnP Tryz.prog 127 [.str s] (.tup [.str (bs (opened (bl s)).1), .int .i64 (opened (bl s)).2]) :=
 FnP.of_calls rfl (by simp) (by simp) fun w => (CrcT.opened_any s w hs).mono fun e w' ⟨h1, h2⟩ => ⟨_, h1, h2, VRep.tup2 (.str _) (.int _ _)⟩
theorem bs_size' (l : List UInt8) : (bs l).size = l.length := rfl
theorem putF_big {b : ByteArray} (h : 20000 < b.size) : putF b = (⟨#[]⟩, 3) := if_pos h
theorem putF_ok {b : ByteArray} (h : ¬ 20000 < b.size) : putF b = (bs (frm (bl b)), 0) := if_neg h
theorem frm_mk (b : ByteArray) : closed (bl (bs (putN b.size).1 ++ b)) = frm (bl b) := by rw [bl_append, bl_bs]; unfold frm; rw [bl_len]
theorem getN_ok {l : List UInt8} {p : Int} (h : (getN l p).2.2 = 0) : 0 ≤ (getN l p).1 ∧ (getN l p).1 ≤ 9223372036854775807 ∧ 0 ≤ p ∧ p < (getN l p).2.1 ∧ (getN l p).2.1 ≤ l.length := by
 have := get_least l p (getN l p).1 (getN l p).2.1 (by rw [← h])
 exact ⟨this.1, this.2.1, this.2.2.1, this.2.2.2.1, this.2.2.2.2.1⟩
theorem getF_1 {s : ByteArray} {p : Int} (h : ¬ (getN (bl s) p).2.2 = 0) : getF s p = (⟨#[]⟩, 0, (getN (bl s) p).2.2) := if_pos h
theorem getF_2 {s : ByteArray} {p : Int} (h : (getN (bl s) p).2.2 = 0) (h2 : 20000 < (getN (bl s) p).1) : getF s p = (⟨#[]⟩, 0, 3) := by unfold getF; rw [if_neg (by rw [h]; simp), if_pos h2]
theorem getF_3 {s : ByteArray} {p : Int} (h : (getN (bl s) p).2.2 = 0) (h2 : ¬ 20000 < (getN (bl s) p).1) (h3 : (s.size : Int) < (getN (bl s) p).2.1 + (getN (bl s) p).1 + 4) : getF s p = (⟨#[]⟩, 0, 4) := by unfold getF; rw [if_neg (by rw [h]; simp), if_neg h2, if_pos h3]
theorem getF_4 {s : ByteArray} {p : Int} (h : (getN (bl s) p).2.2 = 0) (h2 : ¬ 20000 < (getN (bl s) p).1) (h3 : ¬ (s.size : Int) < (getN (bl s) p).2.1 + (getN (bl s) p).1 + 4) (h4 : ¬ (opened (bl (s.extract p.toNat ((getN (bl s) p).2.1 + (getN (bl s) p).1 + 4).toNat))).2 = 0) : getF s p = (⟨#[]⟩, 0, (opened (bl (s.extract p.toNat ((getN (bl s) p).2.1 + (getN (bl s) p).1 + 4).toNat))).2) := by
 rw [bl_extract] at h4 ⊢
 unfold getF; rw [if_neg (by rw [h]; simp), if_neg h2, if_neg h3, if_pos h4]
theorem getF_5 {s : ByteArray} {p : Int} (h : (getN (bl s) p).2.2 = 0) (h2 : ¬ 20000 < (getN (bl s) p).1) (h3 : ¬ (s.size : Int) < (getN (bl s) p).2.1 + (getN (bl s) p).1 + 4) (h4 : (opened (bl (s.extract p.toNat ((getN (bl s) p).2.1 + (getN (bl s) p).1 + 4).toNat))).2 = 0) : getF s p = (s.extract (getN (bl s) p).2.1.toNat ((getN (bl s) p).2.1 + (getN (bl s) p).1).toNat, (getN (bl s) p).2.1 + (getN (bl s) p).1 + 4, 0) := by
 rw [bl_extract] at h4
 unfold getF; rw [if_neg (by rw [h]; simp), if_neg h2, if_neg h3, if_neg (by rw [h4]; simp)]
theorem open_size {s : ByteArray} (h : (opened (bl s)).2 = 0) : (bs (opened (bl s)).1).size + 4 = s.size := by
 obtain ⟨h4, h1, _⟩ := closed_opened h
 have := bl_len s
 rw [h1]; show ((bl s).take _).length + 4 = _
 rw [List.length_take]; omega
theorem open_cut {s : ByteArray} {p f t : Nat} (hpf : p ≤ f) (hft : f + 4 ≤ t) (ht : t ≤ s.size) (h : (opened (bl (s.extract p t))).2 = 0) : (bs (opened (bl (s.extract p t))).1).extract (f - p) (bs (opened (bl (s.extract p t))).1).size = s.extract f (t - 4) := by
 obtain ⟨h4, h1, _⟩ := closed_opened h
 have hl := bl_len s
 apply bl_inj
 have hsz : (bs (opened (bl (s.extract p t))).1).size = t - 4 - p := by
   rw [h1]; show ((bl (s.extract p t)).take _).length = _
   rw [List.length_take, bl_extract, List.length_drop, List.length_take]; omega
 rw [hsz, h1, bl_extract (bs _), bl_bs, bl_extract s p t, bl_extract s f (t - 4)]
 have e : (((bl s).take t).drop p).length = t - p := by rw [List.length_drop, List.length_take]; omega
 rw [e, List.take_take, Nat.min_eq_left (by omega), List.take_drop, List.take_take, Nat.min_eq_left (by omega), List.drop_drop, show p + (t - 4 - p) = t - 4 by omega, show p + (f - p) = f by omega]
theorem putF_fn (b : ByteArray) (hb : b.size ≤ 9223372036854775807) : FnP Tryz.prog 49 [.str b] (.tup [.str (putF b).1, .int .i64 (putF b).2]) := by
 refine FnP.of Tryz.func49 rfl rfl (by simp) (by simp [AV.cells]) (fun G hG => ?_)
 have hN : NoH G.length (.tup [.str (putF b).1, .int .i64 (putF b).2]) := (by simp [AV.cells])
 refine sr fun _ => ?_
 refine ma ?_
 refine mz ?_
 refine AWP.seq (sr fun _ => ?_)
 refine mv ?_
 refine ARun.lenStr rfl rfl rfl rfl U9 (ep rfl) optN ?_
 refine ρ6 ?_
 refine ez ?_
 refine ρo (fun h0 => ?_) (fun h0 => ?_)
 · simp at h0
   refine sr fun _ => ?_
   refine ma ?_
   refine mz ?_
   refine AWP.ret (thenA_r ?_)
   refine ρB (rs := [.tmp 2, .tmp 3]) (.cons (.tmp rfl) (.cons (.tmp rfl) .nil)) ?_
   rw [putF_big (by omega)]; rfl
 simp at h0
 refine AWP.skip (thenA_n (sr fun _ => ?_))
 refine mv ?_
 refine ARun.lenStr rfl rfl rfl rfl U9 (ep rfl) optN ?_
 refine ARun.call rfl rfl rfl rfl cf64 (ep rfl) (.cons (ep rfl) .nil) rfl (fun hg => put_fn b.size (by omega)) optN ?_
 refine mv ?_
 refine ρj ?_
 refine ρj ?_
 refine ma ?_
 refine mz ?_
 refine AWP.seq (sr fun _ => ?_)
 refine mv ?_
 refine ρ6 ?_
 refine ez ?_
 refine ρo (fun h1 => ?_) (fun h1 => ?_)
 · rw [putN_err, if_pos (by omega)] at h1; simp at h1
 refine AWP.skip (thenA_n (sr fun _ => ?_))
 refine mv ?_
 refine mv ?_
 refine ARun.cat rfl rfl rfl rfl (ep rfl) (ep rfl) (fun hg => (by have := putN_len b.size; simp only [bs_size']; omega)) optN ?_
 refine ARun.call rfl rfl rfl rfl cf95 (ep rfl) (.cons (ep rfl) .nil) rfl (fun hg => seal_fn (bs (putN b.size).1 ++ b) (by rw [ByteArray.size_append, bs_size']; have := putN_len b.size; omega)) optN ?_
 refine ma ?_
 refine mz ?_
 refine AWP.ret ?_
 refine ρB (rs := [.tmp 2, .tmp 3]) (.cons (.tmp rfl) (.cons (.tmp rfl) .nil)) ?_
 rw [frm_mk, putF_ok (by omega)]; rfl
theorem getF_fn (s : ByteArray) (p : Int) (hs : s.size ≤ 1000000) : FnP Tryz.prog 94 [.str s, .int .i64 p] (.tup [.str (getF s p).1, .int .i64 (getF s p).2.1, .int .i64 (getF s p).2.2]) := by
 have hlen := bl_len s
 have hok := getN_ok (l := bl s) (p := p)
 have hbd := getN_bd (bl s) p (by rw [bl_len]; exact hs)
 refine FnP.of Tryz.func94 rfl rfl (by simp) (by simp [AV.cells]) (fun G hG => ?_)
 have hN : NoH G.length (.tup [.str (getF s p).1, .int .i64 (getF s p).2.1, .int .i64 (getF s p).2.2]) := (by simp [AV.cells])
 refine sr fun _ => ?_
 refine ma ?_
 refine ma ?_
 refine mz (sr fun _ => ?_)
 refine mv ?_
 refine mv ?_
 refine ρk cf67 (fun hg => get_fn s p hs) ?_
 refine mv ?_
 refine ρj ?_
 refine ρj ?_
 refine ρj ?_
 refine ma ?_
 refine ma ?_
 refine mz ?_
 refine AWP.seq (AWP.block (sr fun _ => ?_))
 refine mv ?_
 refine ρ6 ?_
 refine mz ?_
 refine ρo (fun h0 => ?_) (fun h0 => ?_)
 · simp at h0
   refine sr fun _ => ?_
   refine mv ?_
   refine ma ?_
   refine ma ?_
   refine mz ?_
   refine AWP.ret (blockA_r (thenA_r ?_))
   refine ρB (rs := [.tmp 4, .tmp 5, .tmp 6]) (.cons (.tmp rfl) (.cons (.tmp rfl) (.cons (.tmp rfl) .nil))) ?_
   rw [getF_1 h0]; rfl
 simp at h0
 have hq := hok h0
 refine sr fun _ => ?_
 refine mv ?_
 refine ρ6 ?_
 refine mz ?_
 refine ρo (fun h1 => ?_) (fun h1 => ?_)
 · simp at h1
   refine sr fun _ => ?_
   refine ma ?_
   refine ma ?_
   refine mz ?_
   refine AWP.ret (blockA_r (thenA_r ?_))
   refine ρB (rs := [.tmp 4, .tmp 5, .tmp 6]) (.cons (.tmp rfl) (.cons (.tmp rfl) (.cons (.tmp rfl) .nil))) ?_
   rw [getF_2 h0 (by omega)]; rfl
 simp at h1
 refine sr fun _ => ?_
 refine mv ?_
 first | refine ρd ?_ | refine ρg ?_
 refine mv ?_
 refine ARun.lenStr rfl rfl rfl rfl U9 (ep rfl) optN ?_
 refine mv ?_
 first | refine ρd ?_ | refine ρg ?_
 refine ρ6 ?_
 refine mz ?_
 refine ρo (fun h2 => ?_) (fun h2 => ?_)
 · simp at h2
   refine sr fun _ => ?_
   refine ma ?_
   refine ma ?_
   refine mz ?_
   refine AWP.ret (blockA_r (thenA_r ?_))
   refine ρB (rs := [.tmp 4, .tmp 5, .tmp 6]) (.cons (.tmp rfl) (.cons (.tmp rfl) (.cons (.tmp rfl) .nil))) ?_
   rw [getF_3 h0 (by omega) (by omega)]; rfl
 simp at h2
 refine AWP.skip (blockA_n (thenA_n (sr fun _ => ?_)))
 refine mv ?_
 refine mv ?_
 first | refine ρd ?_ | refine ρg ?_
 first | refine ρd ?_ | refine ρg ?_
 refine mz (sr fun _ => ?_)
 refine mv ?_
 refine mv ?_
 refine mv ?_
 refine ARun.cutStr (a := p.toNat) (b := ((getN (bl s) p).2.1 + (getN (bl s) p).1 + 4).toNat) rfl rfl rfl rfl U9 (ep rfl) ⟨_, _, (ep rfl), fun hg => (by (try simp at hg); omega)⟩ ⟨_, _, (ep rfl), fun hg => (by (try simp at hg); omega)⟩ (fun hg => (by (try simp at hg); omega)) rfl optN ?_
 refine ARun.call rfl rfl rfl rfl cf127 (ep rfl) (.cons (ep rfl) .nil) rfl (fun hg => unseal_fn (s.extract p.toNat ((getN (bl s) p).2.1 + (getN (bl s) p).1 + 4).toNat) (by rw [ByteArray.size_extract]; omega)) optN ?_
 refine mv ?_
 refine ρj ?_
 refine ρj ?_
 refine ma ?_
 refine mz ?_
 refine AWP.seq (sr fun _ => ?_)
 refine mv ?_
 refine ρ6 ?_
 refine ez ?_
 refine ρo (fun h3 => ?_) (fun h3 => ?_)
 · simp at h3
   refine sr fun _ => ?_
   refine mv ?_
   refine ma ?_
   refine ma ?_
   refine mz ?_
   refine AWP.ret (thenA_r ?_)
   refine ρB (rs := [.tmp 4, .tmp 5, .tmp 6]) (.cons (.tmp rfl) (.cons (.tmp rfl) (.cons (.tmp rfl) .nil))) ?_
   rw [getF_4 h0 (by omega) (by omega) h3]; rfl
 simp at h3
 have hos := open_size h3
 rw [ByteArray.size_extract] at hos
 refine AWP.skip (thenA_n (sr fun _ => ?_))
 refine mv ?_
 refine mv ?_
 refine mv ?_
 first | refine ρd ?_ | refine ρg ?_
 refine ARun.cutStr (a := ((getN (bl s) p).2.1.toNat - p.toNat)) (b := (bs (opened (bl (s.extract p.toNat ((getN (bl s) p).2.1 + (getN (bl s) p).1 + 4).toNat))).1).size) rfl rfl rfl rfl U9 (ep rfl) ⟨_, _, (ep rfl), fun hg => (by (try simp at hg); omega)⟩ (fun _ => rfl) (fun hg => (by (try simp at hg); omega)) rfl optN ?_
 refine mv ?_
 refine ma ?_
 refine ma ?_
 refine mz ?_
 refine AWP.ret ?_
 refine ρB (rs := [.tmp 4, .tmp 5, .tmp 6]) (.cons (.tmp rfl) (.cons (.tmp rfl) (.cons (.tmp rfl) .nil))) ?_
 rw [getF_5 h0 (by omega) (by omega) h3, open_cut (by omega) (by omega) (by omega) h3, show ((getN (bl s) p).2.1 + (getN (bl s) p).1 + 4).toNat - 4 = ((getN (bl s) p).2.1 + (getN (bl s) p).1).toNat by omega]; rfl
end Go.Proofs.YtnlpojjfkgnhhaaGreatDoor.Fm
namespace Go.Proofs.YtnlpojjfkgnhhaaGreatDoor.Fm
open Go.RowKit
open NumP
def jn (l : List ByteArray) (k : Nat) : List UInt8 := (l.take k).flatMap fun b => frm (bl b)
theorem jn_succ (l : List ByteArray) (k : Nat) (h : k < l.length) : jn l (k + 1) = jn l k ++ frm (bl (l.getD k default)) := by
 unfold jn; rw [List.take_succ_eq_append_getElem h, List.flatMap_append]; simp [List.getD, h]
theorem jn_mono (l : List ByteArray) (k : Nat) : (jn l k).length ≤ (jn l l.length).length := by
 unfold jn; rw [List.take_length]
 conv => rhs; rw [← List.take_append_drop k l, List.flatMap_append, List.length_append]
 omega
theorem joinP_bad {l : List ByteArray} {k : Nat} (hk : k < l.length) (h : (putF (l.getD k default)).2 ≠ 0) : joinP l = (⟨#[]⟩, 3) ∧ (putF (l.getD k default)).2 = 3 := by
 have hb : 20000 < (l.getD k default).size := by
   by_cases e : 20000 < (l.getD k default).size
   · exact e
   rw [putF_ok e] at h; exact absurd rfl h
 refine ⟨?_, by rw [putF_big hb]⟩
 unfold joinP; rw [if_neg]
 intro ha
 have := List.all_eq_true.1 ha l[k] (List.getElem_mem hk)
 rw [show l.getD k default = l[k] from by simp [List.getD, hk]] at hb
 have := of_decide_eq_true this; omega
theorem putF_zero {b : ByteArray} (h : (putF b).2 = 0) : b.size ≤ 20000 ∧ (putF b).1 = bs (frm (bl b)) := by
 by_cases e : 20000 < b.size
 · rw [putF_big e] at h; simp at h
 exact ⟨by omega, by rw [putF_ok e]⟩
theorem joinP_good {l : List ByteArray} (h : ∀ j, j < l.length → (putF (l.getD j default)).2 = 0) : joinP l = (bs (jn l l.length), 0) := by
 unfold joinP jn; rw [if_pos, List.take_length]
 rw [List.all_eq_true]
 intro x hx
 obtain ⟨j, hj, rfl⟩ := List.mem_iff_getElem.1 hx
 have := (putF_zero (h j hj)).1
 rw [show l.getD j default = l[j] from by simp [List.getD, hj]] at this
 exact decide_eq_true this
theorem writeF (a : List UInt8) (b : ByteArray) (h : (putF b).2 = 0) (ha : (a ++ frm (bl b)).length ≤ 1000000) : FnM Tryz.prog 50 (fun i => [.box i 0, .str (putF b).1]) [.adr 88, .buf 5 (bs a)] (.tup [.int .i64 (putF b).1.size, .raw .nilIface]) [.adr 88, .buf 5 (bs (a ++ frm (bl b)))] := by
 have hb := (putF_zero h).2
 have := writeB a (putF b).1 (by rw [hb, bs_size']; rw [List.length_append] at ha; omega)
 rw [← bs_append, ← hb]; exact this
theorem str_at {l : List ByteArray} {M : Nat} (h : ∀ x, x ∈ l → x.size ≤ M) {k : Nat} (hk : k < l.length) : (l.getD k default).size ≤ M := by
 rw [show l.getD k default = l[k] from by simp [List.getD, hk]]; exact h _ (List.getElem_mem hk)
theorem join_fn (l : List ByteArray) (hl : l.length ≤ 1000000) (hm : ∀ x, x ∈ l → x.size ≤ maxLen) (hj : (jn l l.length).length ≤ 1000000) : FnP Tryz.prog 17 [.sl (l.map AV.str)] (.tup [.str (joinP l).1, .int .i64 (joinP l).2]) := by
 refine FnP.of Tryz.func17 rfl rfl (by simp) (by simp [AV.cells]) (fun G hG => ?_)
 have hN : NoH G.length (.tup [.str (joinP l).1, .int .i64 (joinP l).2]) := (by simp [AV.cells])
 refine sr fun _ => ?_
 refine ma ?_
 refine mz (sr fun _ => ?_)
 refine ARun.allocBld (j := 0) (e := 5) hG rfl rfl rfl rfl rfl zv88 rfl rfl rfl optN ?_
 refine ez ?_
 refine AWP.seq (sr fun _ => ?_)
 refine mv ?_
 refine ρq U68 ?_
 refine mv ?_
 refine ez ?_
 refine AWP.block ?_
 refine AWP.rounds (fun k => k ≤ l.length ∧ ∀ j, j < k → (putF (l.getD j default)).2 = 0) (fun k => [(4, .box (G.length + 0) 0), (9, .sl (l.map AV.str)), (10, .int .i64 ((l.map AV.str).length : Int)), (11, .int .i64 (k : Int))]) (fun k => [.box [.adr 88, .buf 5 (bs (jn l k))]]) (fun k => l.length - k) 1 0 ⟨Nat.zero_le _, fun j h => by omega⟩ (by repeat (first | exact .nil | refine .cons rfl ?_)) rfl (fun _ => rfl) (fun _ => ⟨by simp [AV.cells], by simp [AO.conts]⟩) (fun k hI => ?_)
 obtain ⟨hk, hno⟩ := hI
 refine sr fun _ => ?_
 refine ρ6 ?_
 refine ez ?_
 refine AWP.seq ?_
 refine ρo (fun h0 => ?_) (fun h0 => ?_)
 · try simp [-List.getD_eq_getElem?_getD] at h0
   refine AWP.skip (thenA_n ?_)
   refine AWP.seq (AWP.block (sr fun _ => ?_))
   first | refine ρa U68 sz9 ?_ | refine ρ7 U68 sz9 ?_
   refine ρ2 U9 ?_
   refine mz (sr fun _ => ?_)
   refine mv ?_
   refine ARun.call rfl rfl rfl rfl cf49 (ep rfl) (.cons (ep rfl) .nil) rfl (fun hg => putF_fn (l.getD k default) (by have := str_at hm (k := k) (by omega); unfold maxLen at this; omega)) optN ?_
   refine mv ?_
   refine ρj ?_
   refine ρj ?_
   refine ma ?_
   refine mz ?_
   refine AWP.seq (sr fun _ => ?_)
   refine mv ?_
   refine ρ6 ?_
   refine ez ?_
   refine ρo (fun h1 => ?_) (fun h1 => ?_)
   · simp [-List.getD_eq_getElem?_getD] at h1
     obtain ⟨q1, q2⟩ := joinP_bad (l := l) (k := k) (by omega) h1
     refine sr fun _ => ?_
     refine mv ?_
     refine ma ?_
     refine mz ?_
     refine AWP.ret (thenA_r ?_)
     refine blockA_r (thenA_r ?_)
     refine thenA_r (blockA_r (thenA_r ?_))
     refine ρB (rs := [.tmp 2, .tmp 3]) (.cons (.tmp rfl) (.cons (.tmp rfl) .nil)) ?_
     rw [q1, q2]; rfl
   simp [-List.getD_eq_getElem?_getD] at h1
   have hjs := jn_succ l k (by omega)
   have hjm := jn_mono l (k + 1)
   refine AWP.skip (thenA_n ?_)
   refine AWP.region (fun _ => ?_)
   refine mv ?_
   refine ARun.callSet (j := 0) hG rfl rfl rfl rfl cf50 (ep rfl) (.cons (ep rfl) (.cons (ep rfl) .nil)) rfl (writeF (jn l k) (l.getD k default) h1 (by rw [← hjs]; omega) _ _ ((hG.at _ _).trans rfl)) rfl optN ?_
   refine ⟨_, _, rfl, hG, ?_⟩
   refine blockA_n (thenA_n ?_)
   refine AWP.region (fun _ => ?_)
   first | refine ρd ?_ | refine ρg ?_
   refine mv ?_
   refine ⟨_, _, rfl, hG, ?_⟩
   refine thenA_n ⟨rfl, k + 1, [], ?_, ?_, ?_, ?_⟩
   · refine ⟨by omega, fun j hj => ?_⟩
     by_cases e : j = k
     · subst e; exact h1
     exact hno j (by omega)
   · repeat (first | exact .nil | refine .cons rfl ?_)
   · rw [jn_succ l k (by omega)]; rfl
   omega
 simp at h0
 obtain rfl : k = l.length := by omega
 refine AWP.exit ?_
 refine thenA_x ?_
 refine thenA_x ?_
 refine blockA_h ?_
 refine thenA_n (sr fun _ => ?_)
 refine ρv (j := 0) cf51 (bld_string (n := 2) (bs (jn l l.length)) [] _ _ ((hG.at _ _).trans rfl)) ?_
 refine ma ?_
 refine mz ?_
 refine AWP.ret ?_
 refine ρB (rs := [.tmp 2, .tmp 3]) (.cons (.tmp rfl) (.cons (.tmp rfl) .nil)) ?_
 rw [joinP_good hno]; rfl
end Go.Proofs.YtnlpojjfkgnhhaaGreatDoor.Fm
namespace Go.Proofs.YtnlpojjfkgnhhaaGreatDoor.Fm
open NumP
abbrev fm (l : List ByteArray) : List UInt8 := l.flatMap fun b => frm (bl b)
theorem fm_cons (b : ByteArray) (l : List ByteArray) : fm (b :: l) = frm (bl b) ++ fm l := List.flatMap_cons ..
def posX (p : Int) : List ByteArray → List (Int × ByteArray)
 | [] => []
 | b :: l => (p + ((frm (bl b)).length : Int), b) :: posX (p + ((frm (bl b)).length : Int)) l
def lastFrom (p : Int) (xs : List (Int × ByteArray)) : Int := xs.foldl (fun _ x => x.1) p
theorem posX_snd (l : List ByteArray) : ∀ p, (posX p l).map (·.2) = l := by
 induction l with
 | nil => intro p; rfl
 | cons b l ih => intro p; simp [posX, ih]
theorem posX_last (l : List ByteArray) : ∀ p, lastFrom p (posX p l) = p + ((fm l).length : Int) := by
 induction l with
 | nil => intro p; simp [posX, lastFrom]
 | cons b l ih =>
   intro p
   show lastFrom (p + ((frm (bl b)).length : Int)) (posX _ l) = _
   rw [ih, fm_cons, List.length_append]; omega
theorem fm_ge (l : List ByteArray) : 5 * l.length ≤ (fm l).length := by
 induction l with
 | nil => simp
 | cons b l ih => rw [fm_cons, List.length_append, List.length_cons]; have := frm_ge (bl b); omega
theorem frs_join (s : ByteArray) (l : List ByteArray) (h : ∀ b, b ∈ l → b.size ≤ 20000) : ∀ (p : Nat) (r : List UInt8), p ≤ s.size → (bl s).drop p = fm l ++ r → ∀ k, frs s (l.length + k) p = posX p l ++ frs s k (p + ((fm l).length : Int)) := by
 induction l with
 | nil => intro p r hp hd k; simp [posX]
 | cons b l ih =>
   intro p r hp hd k
   rw [fm_cons, List.append_assoc] at hd
   have hg := getF_mk (s := s) (p := p) (b := b) (r := fm l ++ r) (by omega) (by omega) (h b (List.mem_cons_self ..)) (by rw [Int.toNat_natCast]; exact hd)
   have hz : (getF s p).2.2 = 0 := by rw [hg]
   have hlt := getF_lt hz
   rw [List.length_cons, show l.length + 1 + k = (l.length + k) + 1 by omega, frs_step hz, hg]
   rw [hg] at hlt
   dsimp only at hlt ⊢
   have := ih (fun x hx => h x (List.mem_cons_of_mem _ hx)) (p + (frm (bl b)).length) r (by omega) (by rw [← List.drop_drop, hd, List.drop_left]) k
   rw [Int.natCast_add] at this
   rw [this, fm_cons, List.length_append, Int.natCast_add, ← Int.add_assoc]; rfl
theorem all_of {s : ByteArray} {l : List ByteArray} {r : List UInt8} (h : ∀ b, b ∈ l → b.size ≤ 20000) (hs : bl s = fm l ++ r) (hr : (getF s ((fm l).length : Int)).2.2 ≠ 0) : allP s = (l, ((fm l).length : Int)) := by
 have hl := bl_len s
 have hge := fm_ge l
 have hlen : (fm l).length ≤ s.size := by rw [← hl, hs, List.length_append]; omega
 have hj := frs_join s l h 0 r (by omega) (by rw [List.drop_zero]; exact hs) (s.size + 1 - l.length)
 rw [show l.length + (s.size + 1 - l.length) = s.size + 1 by omega] at hj
 have hx : allX s = posX 0 l := by
   show frs s (s.size + 1) 0 = _
   rw [show ((0 : Nat) : Int) = 0 from rfl] at hj
   rw [hj, frs_stop (by rw [Int.zero_add]; exact hr), List.append_nil]
 unfold allP
 rw [hx, posX_snd]
 refine Prod.ext rfl ?_
 have := posX_last l 0
 rw [Int.zero_add] at this; exact this
theorem frs_spec (s : ByteArray) : ∀ (k : Nat) (p : Nat), p ≤ s.size → (s.size : Int) < p + 5 * k → ∃ (l : List ByteArray) (r : List UInt8), frs s k p = posX p l ∧ (∀ b, b ∈ l → b.size ≤ 20000) ∧ (bl s).drop p = fm l ++ r ∧ (getF s (p + ((fm l).length : Int))).2.2 ≠ 0 := by
 intro k
 induction k with
 | zero => intro p hp h; omega
 | succ k ih =>
   intro p hp h
   by_cases e : (getF s p).2.2 = 0
   · obtain ⟨g1, g2, g3, g4, r, g5⟩ := getF_ok e
     have hlt := getF_lt e
     rw [Int.toNat_natCast] at g5
     obtain ⟨l, r', q1, q2, q3, q4⟩ := ih (p + (frm (bl (getF s p).1)).length) (by omega) (by omega)
     have e1 : (((p + (frm (bl (getF s p).1)).length : Nat)) : Int) = (getF s p).2.1 := by rw [g3]; omega
     rw [e1] at q1 q4
     refine ⟨(getF s p).1 :: l, r', ?_, ?_, ?_, ?_⟩
     · rw [frs_step e, q1]
       show _ = (_ :: posX _ l)
       rw [← g3]
     · intro b hb
       rcases List.mem_cons.1 hb with rfl | hb
       · exact g2
       · exact q2 b hb
     · rw [← List.drop_drop, g5, List.drop_left] at q3
       rw [g5, q3, fm_cons, List.append_assoc]
     · rw [fm_cons, List.length_append, Int.natCast_add, ← Int.add_assoc, ← g3]; exact q4
   · exact ⟨[], (bl s).drop p, by rw [frs_stop e]; rfl, by simp, rfl, by simpa using e⟩
theorem all_spec (s : ByteArray) : (∀ b, b ∈ (allP s).1 → b.size ≤ 20000) ∧ (allP s).2 = ((fm (allP s).1).length : Int) ∧ ∃ r, bl s = fm (allP s).1 ++ r := by
 obtain ⟨l, r, h1, h2, h3, h4⟩ := frs_spec s (s.size + 1) 0 (by omega) (by omega)
 rw [List.drop_zero] at h3
 have := all_of h2 h3 (by simpa using h4)
 rw [this]
 exact ⟨h2, rfl, r, h3⟩
theorem all_to (s : ByteArray) : 0 ≤ (allP s).2 ∧ (allP s).2 ≤ s.size := by
 obtain ⟨_, h2, r, h3⟩ := all_spec s
 have := bl_len s
 rw [h3, List.length_append] at this
 omega
theorem all_cut (s : ByteArray) : s.extract 0 (allP s).2.toNat = bs (fm (allP s).1) := by
 obtain ⟨_, h2, r, h3⟩ := all_spec s
 apply bl_inj
 rw [bl_extract0, bl_bs, bl_bs, h2, Int.toNat_natCast]
 conv => lhs; rw [h3]
 rw [List.take_left]
end Go.Proofs.YtnlpojjfkgnhhaaGreatDoor.Fm
namespace Go.Proofs.YtnlpojjfkgnhhaaGreatDoor.Fm
open Go.RowKit Go.Shelf
attribute [local go_sem] Oper.semAt_some
theorem get_c {s : ByteArray} {p : Int} {b : ByteArray} {t er : Int} (hs : s.size ≤ 1000000) (h : getF s p = (b, t, er)) (w : World) (hg : GOk [] w) : Calls Tryz.prog 94 #[.string s, .int .i64 p] w fun e w' => e = .returned (.tuple #[.string b, .int .i64 t, .int .i64 er]) ∧ Below w.heap.size w w' := by
 refine (pure_call (getF_fn s p hs) (HRel.nil w hg) (AllRep.cons (.str s) (AllRep.cons (.int .i64 p) .nil)).reps).mono ?_
 rintro e w' ⟨v, rfl, hb, hr⟩
 rw [h] at hr
 refine ⟨?_, hb⟩
 cases hr with
 | tup vs cs hl h =>
   obtain ⟨l⟩ := vs
   match l, hl with
   | [x, y, z], _ =>
     have h0 := h 0 x _ rfl rfl
     have h1 := h 1 y _ rfl rfl
     have h2 := h 2 z _ rfl rfl
     cases h0; cases h1; cases h2; rfl
theorem frames_c (s : ByteArray) (w : World) : Calls Tryz.prog 48 #[.string s] w fun e w' => e = .returned (.func (.func 93) #[] #[.pointer (some ⟨w.heap.size, 0, none⟩)]) ∧ w' = w.alloc (.cells #[.string s] 9) := by
 refine (callsIn_wide (n := 6)).1 ?_
 refine callsIn_of_wp Tryz.func48 rfl trivial ?_ rfl
 simp only [Tryz.ntmps48, List.size_toArray, List.length_cons, List.length_nil, Nat.reduceAdd, Nat.reduceSub, Array.replicate_succ, Array.replicate_zero, List.push_toArray, List.append_toArray, List.nil_append, List.cons_append]
 gi_wp2
 go_ret
 exact ⟨rfl, rfl⟩
abbrev encF (x : Int × ByteArray) : Array Value := #[.int .i64 x.1, .string x.2]
def KpB (B N : Nat) (W W' : World) : Prop := W.heap.size ≤ W'.heap.size ∧ (B < W.heap.size → W'.heap[B]? = W.heap[B]?) ∧ ∀ k, k < N → W'.heap[k]? = W.heap[k]?
theorem KpB_t {B N : Nat} {X Y Z : World} (h : KpB B N X Y) (k : KpB B N Y Z) : KpB B N X Z := ⟨Nat.le_trans h.1 k.1, fun hb => (k.2.1 (Nat.lt_of_lt_of_le hb h.1)).trans (h.2.1 hb), fun q hq => (k.2.2 q hq).trans (h.2.2 q hq)⟩
theorem KpB_b {B N n : Nat} (hB : B < n) (hN : N ≤ n) (W : World) (l : Nat) (o o' : Obj) (hl : n ≤ l) (_ : W.heap[l]? = some o) (_ : o.isCells = false) (_ : o.isWalk = false) : KpB B N W (W.putObj l o') :=
 ⟨by simp, fun _ => World.putObj_heap_other (by omega), fun k hk => World.putObj_heap_other (by omega)⟩
theorem gok_kept {N : Nat} {W W' : World} (h : GOk [] W) (hs : W.heap.size ≤ W'.heap.size) (hk : ∀ k, k < N → W'.heap[k]? = W.heap[k]?) (hN : ∀ p, p ∈ globs → p.1 < N) : GOk [] W' := fun p hp => by
 obtain ⟨h1, h2, h3⟩ := h p hp
 refine ⟨?_, Nat.lt_of_lt_of_le h2 hs, h3⟩
 rw [← h1]
 simp only [World.cell?, hk _ (hN p hp)]
theorem gok_below {W W' : World} (h : GOk [] W) (hb : Below W.heap.size W W') : GOk [] W' := h.ext (Ext.of_below [] hb)
theorem grown_below {W W' : World} (h : Below W.heap.size W W') : W.grownBy W' none := ⟨h.os, h.tape, h.output, h.size, fun k hk _ => h.block k hk⟩
set_option maxHeartbeats 4000000 in
theorem frames1_in (n : Nat) (hn : 2 ≤ n) (l B N : Nat) (hNg : ∀ p, p ∈ globs → p.1 < N) (s : ByteArray) (hs : s.size ≤ 1000000) (J Jx : List (Int × ByteArray) → World → Prop) (W : World) (hJ : AbidesFrom W.heap.size J)
   (hY : ∀ pre x W1, J pre W1 → pre.length < s.size + 1 → YieldAt Fence.wide (n - 1) Tryz.prog l (encF x) W1 fun e W' => (e = .returned (.bool true) ∧ J (pre ++ [x]) W' ∧ KpB B N W1 W') ∨ (e = .returned (.bool false) ∧ Jx (pre ++ [x]) W'))
   (hB : W.heap[B]? = some (.cells #[.string s] 9 (0, 0))) (hg0 : GOk [] W) (h0 : J [] W) :
   CallsIn Fence.wide n Tryz.prog 93 #[.func (.yield l) #[] #[], .pointer (some ⟨B, 0, none⟩)] W fun e W' => (∃ v, e = .returned v) ∧ ((∃ ys, ys = allX s ∧ J ys W') ∨ (∃ pre, pre <+: allX s ∧ Jx pre W')) := by
 refine callsIn_of_wp Tryz.func93 rfl trivial ?_ rfl
 simp only [Tryz.ntmps93, List.size_toArray, List.length_cons, List.length_nil, Nat.reduceAdd, Nat.reduceSub, Array.replicate_succ, Array.replicate_zero, List.push_toArray, List.append_toArray, List.nil_append, List.cons_append]
 gi_wp2
 have hF : Fence.wide.fn 94 := trivial
 have h1n : 1 ≤ n := by omega
 gi_loopw [3] (fun p wr => ∃ (pre : List (Int × ByteArray)) (q : Int), p = .int .i64 q ∧ At s pre q ∧ J pre wr ∧ wr.heap[B]? = some (.cells #[.string s] 9 (0, 0)) ∧ GOk [] wr) (fun p wr => s.size + 1 - (intOf p).toNat)
 case atStart => exact ⟨[], 0, rfl, at_start s, h0, hB, hg0⟩
 case round =>
   obtain ⟨pre, q, rfl, hat, hJs, hb, hgk⟩ := hrel
   have hc : wr.cell? ⟨B, 0, none⟩ = some (.string s) := by simp [World.cell?, hb]
   obtain ⟨b, t, er, hg⟩ : ∃ b t er, getF s q = (b, t, er) := ⟨_, _, _, rfl⟩
   by_cases e : er = 0
   · subst e
     have e0 : (getF s q).2.2 = 0 := by rw [hg]
     have hpl := at_len hat
     have hlt := getF_lt e0
     have hgo := at_go hat e0
     rw [hg] at hgo hlt
     gi_wp2_with (gi_at_call 94; refine (callsIn_wide.2 (get_c hs hg _ hgk)).mono ?_; rintro e w1 ⟨rfl, hb1⟩; have hJ1 := hJ _ _ _ none hJs (grown_below hb1) (fun r e => by cases e); obtain ⟨fn, tmps, assign, body, hy, hR⟩ := hY pre (t, b) w1 hJ1 (by omega); dsimp only [encF] at hy)
     refine hR.mono ?_
     rintro e W3 (⟨rfl, hJ3, hk3⟩ | ⟨rfl, hJx3⟩)
     · have hb3 : W3.heap[B]? = some (.cells #[.string s] 9 (0, 0)) := (hk3.2.1 (Nat.lt_of_lt_of_le (Array.getElem?_eq_some_iff.1 hb).1 hb1.size)).trans ((hb1.block B (Array.getElem?_eq_some_iff.1 hb).1).trans hb)
       gi_wp2
       go_roundw
       case rel => exact ⟨pre ++ [(t, b)], t, rfl, hgo, hJ3, hb3, gok_kept (gok_below hgk hb1) hk3.1 hk3.2.2 hNg⟩
       case measure => simp [intOf]; omega
     · gi_wp2
       refine bodyPost_ret (results_none rfl _ _ _) rfl ?_
       exact ⟨⟨_, rfl⟩, .inr ⟨pre ++ [(t, b)], ⟨_, hgo.2.2.2⟩, hJx3⟩⟩
   · have e0 : (getF s q).2.2 ≠ 0 := by rw [hg]; exact e
     have e1 : (er == (0 : Int)) = false := by simpa using e
     have e2 : decide (er = 0) = false := decide_eq_false e
     gi_wp2_with (gi_at_call 94; refine (callsIn_wide.2 (get_c hs hg _ hgk)).mono ?_; rintro e w1 ⟨rfl, hb1⟩; have hJ1 := hJ _ _ _ none hJs (grown_below hb1) (fun r e => by cases e))
     refine ⟨fun _ h => (by cases h), ?_⟩
     gi_wp2
     refine bodyPost_ret (results_none rfl _ _ _) rfl ?_
     exact ⟨⟨_, rfl⟩, .inl ⟨pre, (at_stop hat e0).1, hJ1⟩⟩
end Go.Proofs.YtnlpojjfkgnhhaaGreatDoor.Fm
namespace Go.Proofs.YtnlpojjfkgnhhaaGreatDoor.Fm
open Go.RowKit Go.Shelf
attribute [local go_sem] Oper.semAt_some
theorem frames_stops (n : Nat) (hn : 2 ≤ n) (B : Nat) (s : ByteArray) (hs : s.size ≤ 1000000) (w : World) (N : Nat) (hNg : ∀ p, p ∈ globs → p.1 < N) (hg0 : GOk [] w) (hB : w.heap[B]? = some (.cells #[.string s] 9 (0, 0))) :
   SeqStopsK Fence.wide n Tryz.prog 93 #[.pointer (some ⟨B, 0, none⟩)] encF (KpB B N) (fun ys => ys = allX s) (fun pre => pre <+: allX s) (s.size + 1) w := fun l J Jx W hW hJ _ hY h0 =>
 frames1_in n hn l B N hNg s hs J Jx W hJ hY ((hW.block B (Array.getElem?_eq_some_iff.1 hB).1).trans hB) (gok_below hg0 hW) h0
theorem infoS : (Tryz.prog.info? 9).map (fun i => (i.zero, i.size, i.bytes)) = some (some (.string ByteArray.empty), 1, 16) := by kernel_rfl
theorem size_own (n : Nat) : Own (fun (_ : List (Int × ByteArray)) W => n ≤ W.heap.size) := fun s A B row hs hg hr => Nat.le_trans hs hg.size
set_option maxHeartbeats 4000000 in
theorem all_c (s : ByteArray) (hs : s.size ≤ 1000000) (w : World) (hgl : GOk [] w) : Calls Tryz.prog 16 #[.string s] w fun e W' => ∃ v, e = .returned (.tuple #[v, .int .i64 (lastTo (allX s))]) ∧ W'.ownsRow w.heap.size 9 1 v (allX s).length ((allX s).map fun x => .string x.2) ∧ Below w.heap.size w W' := by
 refine (callsIn_wide (n := 6)).1 ?_
 obtain ⟨i0, hi, hz0, hz1, hz2⟩ := info_parts infoS
 refine callsIn_of_wp_marks Tryz.func16 rfl trivial ?_ rfl
 simp only [Tryz.ntmps16, List.size_toArray, List.length_cons, List.length_nil, Nat.reduceAdd, Nat.reduceSub, Array.replicate_succ, Array.replicate_zero, List.push_toArray, List.append_toArray, List.nil_append, List.cons_append]
 have hF : Fence.wide.fn 48 := trivial
 have h1n : 1 ≤ 6 := by omega
 gi_wp2_with (gi_at_call 48; refine (callsIn_wide.2 (frames_c s _)).mono ?_; rintro e w' ⟨rfl, rfl⟩)
 have bO := Boxed.new w 68 (.slice none 0 0)
 have bI := Boxed.new (w.alloc (.cells #[.slice none 0 0] 68)) 3 (.int .i64 0)
 have bS := Boxed.new ((w.alloc (.cells #[.slice none 0 0] 68)).alloc (.cells #[.int .i64 0] 3)) 9 (.string s)
 rw [World.size_alloc] at bI
 rw [World.size_alloc, World.size_alloc] at bS
 have hNg : ∀ p, p ∈ globs → p.1 < w.heap.size := fun p hp => (hgl p hp).2.1
 have hB0 : Below w.heap.size w (((w.alloc (.cells #[.slice none 0 0] 68)).alloc (.cells #[.int .i64 0] 3)).alloc (.cells #[.string s] 9)) := (((Below.refl _ w).alloc (Nat.le_refl _) _).alloc (by simp) _).alloc (by simp; omega) _
 refine wpIn_rangeFunc_ownG rfl (by omega) (gf := 93) (lb := #[.pointer (some ⟨w.heap.size + 1 + 1, 0, none⟩)]) rfl trivial (enters_of Tryz.func93 (by kernel_rfl) rfl)
   (frames_stops 5 (by omega) (w.heap.size + 1 + 1) s hs _ w.heap.size hNg (gok_below hgl hB0) bS) KpB_t (KpB_b (by simp) (by simp; omega)) (Below.refl _ _) (fun _ => rfl)
   (fun (pre : List (Int × ByteArray)) W => (∃ v, Boxed W w.heap.size 68 v ∧ W.ownsRow (w.heap.size + 3) 9 1 v pre.length (pre.map fun x => Value.string x.2) ∧ True) ∧ (Boxed W (w.heap.size + 1) 3 (.int .i64 (lastTo pre)) ∧ (w.heap.size + 3 ≤ W.heap.size ∧ Below w.heap.size w W)))
   (fun _ _ _ => False)
   (OwnFrom.and (Own.from (holdsRow_own (w.heap.size + 3) w.heap.size 68 9 1 (fun (pre : List (Int × ByteArray)) => pre.length) (fun (pre : List (Int × ByteArray)) => pre.map fun x => Value.string x.2) (fun pre v => True)) _) (OwnFrom.and (Own.from (boxed_own (w.heap.size + 1) 3 (fun (pre : List (Int × ByteArray)) => Value.int .i64 (lastTo pre))) _) (OwnFrom.and (Own.from (size_own _) _) (ownFrom_below (Nat.le_refl _) (by simp; omega)))))
   (fun _ _ _ _ _ hs _ _ => hs)
   ⟨⟨_, (bO.alloc _).alloc _, World.ownsRow_nil _ _ _ _, trivial⟩, bI.alloc _, by simp, hB0⟩
   (fun x => { tmps := #[.string s, undef, .pointer (some ⟨w.heap.size, 0, none⟩), .pointer (some ⟨w.heap.size + 1, 0, none⟩), .int .i64 x.1, .string x.2, .string s, .func (.func 93) #[] #[.pointer (some ⟨w.heap.size + 1 + 1, 0, none⟩)], .int .i64 x.1, .string x.2, undef, undef, undef, undef, undef, undef, undef], defers := [] }) ?assign ?body ?done ?stop
 case assign =>
   intro l x W K hK
   gi_wp2
   exact hK
 case body =>
   rintro l pre x W ⟨⟨v, hv, hrow, _⟩, hi1, hsz, hB⟩ hlt
   have hc := hv.cell
   gi_wp2_with (gi_at_builtin; refine wpListIn_append_own _ rfl _ _ 68 rfl (w.heap.size + 3) 9 i0 (.string ByteArray.empty) 1 16 U68 hi hz0 hz1 hz2 rfl (by decide) _ _ _ rfl (hrow.alloc _) ⟨W.heap.size, 0, none⟩ 1 1 [.string x.2] rfl rfl (cell_one_new _ _ _) (by simp [Value.oneCell']) (by unfold maxLen; omega) (by omega) (by simp; omega) ?_; intro v' w1 hown' hgrow _; obtain ⟨g', cap', rfl⟩ := ownsRow_succ hown'; have hv1 := (hv.alloc _).kept hgrow (hv.not_row (by decide) hrow); have hi2 := (hi1.alloc _).kept hgrow (hi1.not_row (by decide) hrow); have hc1 := hv1.cell; have hf1 := hv1.frozen; have hc2 := hi2.cell; have hf2 := hi2.frozen)
   have hW1 := hgrow.size
   rw [World.size_alloc] at hW1
   have hob : ∀ j, v.ownBlock = some j → w.heap.size + 3 ≤ j ∧ ∃ o : Obj, W.heap[j]? = some o ∧ o.isCells = true := fun j ej => by
     rcases hrow.2 with ⟨rfl, _⟩ | ⟨g, cap, cur, rfl, h3, hgb, _⟩
     · simp [Value.ownBlock] at ej
     · obtain rfl : g = j := by simpa [Value.ownBlock] using ej
       exact ⟨h3, _, hgb, rfl⟩
   have hko : KeepsOthers W ((w1.setCell ⟨w.heap.size, 0, none⟩ (.slice (some ⟨g', 0, none⟩) (pre.length + 1) cap')).setCell ⟨w.heap.size + 1, 0, none⟩ (.int .i64 x.1)) := by
     refine (((KeepsOthers.alloc W _).trans (KeepsOthers.of_grownBy hgrow fun j o ej hj => ?_)).trans (KeepsOthers.setCell _ _ _)).trans (KeepsOthers.setCell _ _ _)
     obtain ⟨_, o', h1, h2⟩ := hob j ej
     rw [Below.heap_alloc W _ j (Array.getElem?_eq_some_iff.1 h1).1, h1] at hj
     cases hj; exact h2
   have hbw := ((((Below.refl w.heap.size W).alloc hB.size _).grown hgrow (by rw [World.size_alloc]; omega) (fun j ej => by have := (hob j ej).1; omega)).setCell (p := ⟨w.heap.size, 0, none⟩) (Nat.le_refl _) (.slice (some ⟨g', 0, none⟩) (pre.length + 1) cap')).setCell (p := ⟨w.heap.size + 1, 0, none⟩) (Nat.le_succ _) (.int .i64 x.1)
   refine ⟨hko.from _, ⟨hko.size, fun hlt => ?_, fun k hk => hbw.block k hk⟩, ⟨_, (hv1.set _).other (by omega) _, ?_, trivial⟩, ?_, Nat.le_trans hsz hko.size, hB.trans hbw⟩
   · rw [Below.heap_setCell _ _ _ _ (by first | (simp; done) | (simp; omega)), Below.heap_setCell _ _ _ _ (by first | (simp; done) | (simp; omega)), hgrow.block _ (by rw [World.size_alloc]; omega) (fun e => by have := (hob _ e.symm).1; omega), Below.heap_alloc W _ _ hlt]
   · have hr1 := hown'.kept (grownBy_setCell' w1 w.heap.size (.slice (some ⟨g', 0, none⟩) (pre.length + 1) cap')) (.inr (hv1.not_row (by decide) hown').symm)
     have hr2 := hr1.kept (grownBy_setCell' _ (w.heap.size + 1) (.int .i64 x.1)) (.inr ((hi2.other (by omega) _).not_row (by decide) hr1).symm)
     rw [List.map_append, List.length_append]; exact hr2
   · rw [lastTo_snoc]; exact (hi2.other (by omega) _).set _
 case done =>
   rintro D ys W hD rfl ⟨⟨v, hv, hrow, _⟩, hi1, hsz, hB⟩ hK
   obtain ⟨va, vn, vc, rfl⟩ : ∃ a n c, v = .slice a n c := by
     rcases hrow.2 with ⟨rfl, _⟩ | ⟨g, cap, cur, rfl, _⟩
     · exact ⟨_, _, _, rfl⟩
     · exact ⟨_, _, _, rfl⟩
   have hc := hv.cell
   have hc2 := hi1.cell
   have hf := hv.frozen
   have hf2 := hi1.frozen
   gi_wp2
   refine wpIn_wide.2 ?_
   go_region
   all_goals gi_wp2
   have hne : w.heap.size ≠ w.heap.size + 1 := by omega
   have hK' := ((KeepsOthers.setCell W ⟨w.heap.size, 0, none⟩ (.slice va vn vc)).trans (KeepsOthers.setCell _ ⟨w.heap.size + 1, 0, none⟩ (.int .i64 (lastTo (allX s))))).same D _ hK rfl
   have b5 := (hv.set (.slice va vn vc)).other hne (.int .i64 (lastTo (allX s)))
   have b6 := (hi1.other hne.symm (.slice va vn vc)).set (.int .i64 (lastTo (allX s)))
   have hr1 := hrow.kept (grownBy_setCell' W w.heap.size (.slice va vn vc)) (.inr (hv.not_row (by decide) hrow).symm)
   have hr2 := hr1.kept (grownBy_setCell' _ (w.heap.size + 1) (.int .i64 (lastTo (allX s)))) (.inr ((hi1.other hne.symm _).not_row (by decide) hr1).symm)
   have hbw := ((Below.refl w.heap.size W).setCell (p := ⟨w.heap.size, 0, none⟩) (Nat.le_refl _) (.slice va vn vc)).setCell (p := ⟨w.heap.size + 1, 0, none⟩) (Nat.le_succ _) (.int .i64 (lastTo (allX s)))
   have hDl : w.heap.size ≤ D := by simp at hD; omega
   have hr3 := ownsRow_putObj hr2 (.deferred none) hK' rfl
   have hb3 := belowK_b (w := w) (Nat.le_refl _) _ D _ (.deferred none) hDl hK' rfl rfl
   have c5 := cell_kept b5.cell (grownBy_putObj' _ D (.deferred none)) (fun r e => by cases e; exact ⟨_, hK', rfl⟩)
   have c6 := cell_kept b6.cell (grownBy_putObj' _ D (.deferred none)) (fun r e => by cases e; exact ⟨_, hK', rfl⟩)
   generalize (W.setCell ⟨w.heap.size, 0, none⟩ (.slice va vn vc)).setCell ⟨w.heap.size + 1, 0, none⟩ (.int .i64 (lastTo (allX s))) = W5 at *
   refine ⟨by simp, .inl ⟨_, _, rfl, run_takeDeferred (w := W5.drew) hK', ?_⟩⟩
   have c5' : (W5.drew.putObj D (.deferred none)).cell? ⟨w.heap.size, 0, none⟩ = some (.slice va vn vc) := c5
   have c6' : (W5.drew.putObj D (.deferred none)).cell? ⟨w.heap.size + 1, 0, none⟩ = some (.int .i64 (lastTo (allX s))) := c6
   refine ⟨.tuple #[.slice va vn vc, .int .i64 (lastTo (allX s))], ?_, _, rfl, ?_, ?_⟩
   · simp [results, Tryz.f16, go_sem, c5', c6']
   · refine ⟨hr3.1, ?_⟩
     rcases hr3.2 with h | ⟨g, cap, cur, h1, h2, h3⟩
     · exact .inl h
     · exact .inr ⟨g, cap, cur, h1, by omega, h3⟩
   · have hh := hB.trans (hbw.trans hb3)
     exact ⟨hh.os, hh.tape, hh.output, hh.size, hh.block⟩
 case stop =>
   rintro D c pre W _ _ h _
   exact h.elim
theorem all_fn (s : ByteArray) (hs : s.size ≤ 1000000) : FnP Tryz.prog 16 [.str s] (.tup [.sl ((allP s).1.map AV.str), .int .i64 (allP s).2]) := by
 refine ⟨by simp [AV.cells], fun k w β vs hH hv => ?_⟩
 rw [hv.lits rfl]
 refine (all_c s hs w (fun p hp => ⟨(hH.gl p hp).1, (hH.gl p hp).2.1, fun x hx => by cases hx⟩)).mono ?_
 rintro e w' ⟨v, rfl, hrow, hb⟩
 refine ⟨_, β, rfl, Ext.of_below β hb, hH.below hb, VRep.tup2 ?_ (.int _ _)⟩
 have hxs : (allP s).1.map AV.str = (allX s).map fun y => AV.str y.2 := by unfold allP; rw [List.map_map]; rfl
 rw [hxs]
 rcases hrow.2 with ⟨rfl, h0⟩ | ⟨gb, cap, cur, rfl, hge, hgg, hnc, hcm, hcs, htake⟩
 · have h1 : allX s = [] := List.eq_nil_of_length_eq_zero (by simpa using h0)
   rw [h1]; exact .slnil
 · have hgl := (Array.getElem?_eq_some_iff.1 hgg).1
   have hcell : ∀ (q : Nat) (y : Int × ByteArray), (allX s)[q]? = some y → w'.cell? ⟨gb, q, none⟩ = some (.string y.2) := by
     intro q y hq
     have hc := cell_of_row w' gb q cur 9 (0, 0) hgg
     rw [hc]
     have hq2 : ((allX s).map fun x => Value.string x.2)[q]? = some (.string y.2) := by rw [List.getElem?_map, hq]; rfl
     rw [← htake, List.getElem?_take] at hq2
     split at hq2
     · simpa using hq2
     · cases hq2
   have hget : ∀ (i j : Nat) (x y : AV), ((allX s).map fun y => AV.str y.2)[i]? = some x → x.cells[j]? = some y → j = 0 ∧ ∃ z, (allX s)[i]? = some z ∧ y = .str z.2 := by
     intro i j x y h1 h2
     rw [List.getElem?_map, Option.map_eq_some_iff] at h1
     obtain ⟨z, h1, rfl⟩ := h1
     cases j with
     | zero => simp [AV.cells] at h2; exact ⟨rfl, z, h1, h2.symm⟩
     | succ j => simp [AV.cells] at h2
   have h := VRep.sl (β := β) (w := w') gb 0 cap 1 ((allX s).map fun y => AV.str y.2) (by simpa using hnc) hcm hgl
     (fun x hx hm => by
       obtain ⟨i, hi, e⟩ := List.mem_iff_getElem.1 hx
       have := hH.lt (i := i) (x := x) (by rw [List.getElem?_eq_getElem hi, e]) hm
       omega)
     (fun x hx => by obtain ⟨y, _, rfl⟩ := List.mem_map.1 hx; rfl)
     (fun i j x y h1 h2 => by
       obtain ⟨rfl, z, hz, rfl⟩ := hget i j x y h1 h2
       exact ⟨_, by rw [show 0 + i * 1 + 0 = i by omega]; exact hcell i z hz⟩)
     (fun i j x y u h1 h2 h3 => by
       obtain ⟨rfl, z, hz, rfl⟩ := hget i j x y h1 h2
       rw [show 0 + i * 1 + 0 = i by omega, hcell i z hz] at h3
       cases h3; exact .str _)
   rw [List.length_map] at h
   exact h
end Go.Proofs.YtnlpojjfkgnhhaaGreatDoor.Fm
namespace Go.Proofs.YtnlpojjfkgnhhaaGreatDoor
open Go.RowKit
open NumP
theorem flat_of_pairs : ∀ (l : List Int) (x : Int), x ∈ flatT (pairsT l) → x ∈ l
 | [], x, h => by simp [pairsT, flatT] at h
 | [a], x, h => by simp [pairsT, flatT] at h
 | a :: b :: r, x, h => by
   have h1 : flatT (pairsT (a :: b :: r)) = a :: b :: flatT (pairsT r) := rfl
   rw [h1] at h
   rcases List.mem_cons.1 h with rfl | h
   · exact List.mem_cons_self
   · rcases List.mem_cons.1 h with rfl | h
     · exact List.mem_cons_of_mem _ List.mem_cons_self
     · exact List.mem_cons_of_mem _ (List.mem_cons_of_mem _ (flat_of_pairs r x h))
theorem msgOf_fit {r : RdS} (h : r.ok) : FitM (msgOf r) := by
 have o2 := rdText_ok (numsR_ok h 8) 300
 have o3 := numsR_ok o2 3
 have o4 := rdRow_ok o3 400
 refine ⟨fun x hx => ?_, fun x hx => ?_, fun x hx => row_fit o3 400 x (flat_of_pairs _ _ hx), fun x hx => row_fit o4 9 x hx⟩
 · simp only [headM, msgOf, List.mem_cons, List.not_mem_nil, or_false] at hx
   rcases hx with rfl | rfl | rfl | rfl | rfl | rfl | rfl | rfl <;> exact num_fit (numsR_ok h _) _
 · simp only [msgOf, List.mem_cons, List.not_mem_nil, or_false] at hx
   rcases hx with rfl | rfl | rfl <;> exact num_fit (numsR_ok o2 _) _
theorem top_msg {s : ByteArray} (hs : s.size ≤ 17000) (h : (takeMErr s).code = 0) : smallM (takeM s) ∧ FitM (takeM s) ∧ putM (takeM s) = s ∧ (putMErr (takeM s)).code = 0 := by
 rw [takeMErr_code] at h
 obtain ⟨h1, h2, h3⟩ := msg_only (by omega) h
 refine ⟨takeM_small (by omega), ?_, h2, ?_⟩
 · unfold takeM; rw [if_pos h]; exact msgOf_fit (rd_new_ok (by omega))
 · unfold putMErr; rw [if_pos h1, errOf_code]; exact h3
theorem top_rec {s : ByteArray} (hs : s.size ≤ 17000) (h : (takeRecErr s).code = 0) : putRec (takeRec s) = s ∧ (putRecErr (takeRec s)).code = 0 := by
 rw [takeRecErr_code] at h
 obtain ⟨h1, h2, h3⟩ := rec_only (by omega) h
 refine ⟨h2, ?_⟩
 unfold putRecErr; rw [if_pos h1, errOf_code]; exact h3
theorem top_call {s : ByteArray} (hs : s.size ≤ 17000) (h : (takeErr s).code = 0) : putC (takeC s) = s ∧ (Er.new tCall (checkP (takeC s))).code = 0 := by
 rw [takeErr_code] at h
 obtain ⟨h1, h2⟩ := call_only (by omega) h
 exact ⟨h2, by rw [new_code]; exact h1⟩
theorem takeR_fit {s : ByteArray} (hs : s.size ≤ 1000000) : ∀ x, x ∈ (takeR s).nums → -9223372036854775808 ≤ x ∧ x ≤ 9223372036854775807 := by
 intro x hx
 unfold takeR at hx
 split at hx
 · cases hx
 · exact row_fit (rdNum_ok (rd_new_ok hs) 255) 20 x hx
theorem top_rep {s : ByteArray} (hs : s.size ≤ 17000) (h : (takeRErr s).code = 0) : putR (takeR s) = s ∧ (Er.new tReply (repE (takeR s))).code = 0 := by
 rw [takeRErr_code] at h
 obtain ⟨h1, h2⟩ := rep_only (by omega) h
 exact ⟨h2, by rw [new_code]; exact h1⟩
theorem top_img {s : ByteArray} (hs : s.size ≤ 17000) (h : (takeIE s).code = 0) : okR (takeI s) ∧ SmallR (takeI s) ∧ replicaE (takeI s) = 0 ∧ (layI (takeI s)).e = 0 ∧ (layI (takeI s)).s.length ≤ 18000 ∧ bs (layI (takeI s)).s = s := by
 unfold takeIE at h
 by_cases h1 : (imEnd s).e ≠ 0
 · rw [if_pos h1, wrap_code, errOf_code] at h; exact absurd h h1
 · rw [if_neg h1] at h
   by_cases h2 : (imS (imSt s)).2.2 = true
   · rw [if_pos h2, new_code] at h; exact absurd h (by decide)
   · rw [if_neg h2, new_code] at h
     have e : takeI s = allQ (imSt s) := by unfold takeI; rw [if_neg h1, if_neg h2, if_neg (fun hn => hn h)]
     have hk := imSt_ok (s := s) (by omega)
     obtain ⟨h3, h4⟩ := img_only (s := s) (by omega) (by omega) (by simpa using h2)
     rw [e]
     refine ⟨all_okR hk h, all_small hk, h, h3, ?_, ?_⟩
     · rw [h4, bl_len]; omega
     · rw [h4]; exact bs_bl s
theorem top_frames {s : ByteArray} (hs : s.size ≤ 17000) : (Fm.allP s).1.length ≤ 1000000 ∧ (∀ x, x ∈ (Fm.allP s).1 → x.size ≤ maxLen) ∧ (Fm.jn (Fm.allP s).1 (Fm.allP s).1.length).length ≤ 1000000 ∧ (Fm.joinP (Fm.allP s).1).1 = s.extract 0 (Fm.allP s).2.toNat ∧ (Fm.joinP (Fm.allP s).1).2 = 0 ∧ 0 ≤ (Fm.allP s).2 ∧ (Fm.allP s).2 ≤ s.size := by
 obtain ⟨h1, h2, _⟩ := Fm.all_spec s
 obtain ⟨h3, h4⟩ := Fm.all_to s
 have hj : Fm.jn (Fm.allP s).1 (Fm.allP s).1.length = Fm.fm (Fm.allP s).1 := by unfold Fm.jn; rw [List.take_length]
 have hg := Fm.fm_ge (Fm.allP s).1
 have hJ : Fm.joinP (Fm.allP s).1 = (bs (Fm.fm (Fm.allP s).1), 0) := if_pos (List.all_eq_true.2 fun x hx => decide_eq_true (h1 x hx))
 refine ⟨by omega, fun x hx => Nat.le_trans (h1 x hx) (by decide), by rw [hj]; omega, ?_, by rw [hJ], h3, h4⟩
 rw [hJ, Fm.all_cut]
end Go.Proofs.YtnlpojjfkgnhhaaGreatDoor
namespace Go.Proofs.YtnlpojjfkgnhhaaGreatDoor
open Go.RowKit
theorem cf4 : ∀ (vs : Array Value) (W : World), (callFunc 4 vs).run Tryz.prog W = .ok (.enter 4 vs) W := fun _ _ => by rfl
theorem cf6 : ∀ (vs : Array Value) (W : World), (callFunc 6 vs).run Tryz.prog W = .ok (.enter 6 vs) W := fun _ _ => by rfl
theorem cf7 : ∀ (vs : Array Value) (W : World), (callFunc 7 vs).run Tryz.prog W = .ok (.enter 7 vs) W := fun _ _ => by rfl
theorem cf8 : ∀ (vs : Array Value) (W : World), (callFunc 8 vs).run Tryz.prog W = .ok (.enter 8 vs) W := fun _ _ => by rfl
theorem cf9 : ∀ (vs : Array Value) (W : World), (callFunc 9 vs).run Tryz.prog W = .ok (.enter 9 vs) W := fun _ _ => by rfl
theorem cf10 : ∀ (vs : Array Value) (W : World), (callFunc 10 vs).run Tryz.prog W = .ok (.enter 10 vs) W := fun _ _ => by rfl
theorem cf11 : ∀ (vs : Array Value) (W : World), (callFunc 11 vs).run Tryz.prog W = .ok (.enter 11 vs) W := fun _ _ => by rfl
theorem cf12 : ∀ (vs : Array Value) (W : World), (callFunc 12 vs).run Tryz.prog W = .ok (.enter 12 vs) W := fun _ _ => by rfl
theorem cf13 : ∀ (vs : Array Value) (W : World), (callFunc 13 vs).run Tryz.prog W = .ok (.enter 13 vs) W := fun _ _ => by rfl
theorem cf14 : ∀ (vs : Array Value) (W : World), (callFunc 14 vs).run Tryz.prog W = .ok (.enter 14 vs) W := fun _ _ => by rfl
theorem cf15 : ∀ (vs : Array Value) (W : World), (callFunc 15 vs).run Tryz.prog W = .ok (.enter 15 vs) W := fun _ _ => by rfl
theorem cf16 : ∀ (vs : Array Value) (W : World), (callFunc 16 vs).run Tryz.prog W = .ok (.enter 16 vs) W := fun _ _ => by rfl
theorem cf17 : ∀ (vs : Array Value) (W : World), (callFunc 17 vs).run Tryz.prog W = .ok (.enter 17 vs) W := fun _ _ => by rfl

end Go.Proofs.YtnlpojjfkgnhhaaGreatDoor
namespace Go.Proofs.YtnlpojjfkgnhhaaGreatDoor
open Go.RowKit
open NumP
def mTop : Mg := ⟨8, 2, 11, 0, 4, 0, 0, 0, ⟨#[]⟩, 0, 0, [], [], 0⟩
theorem mTop_small : smallM mTop := ⟨by decide, by decide, by decide⟩
theorem mTop_fit : FitM mTop := ⟨by decide, by decide, by decide, by decide⟩
theorem mTop_size : (putM mTop).size ≤ 100000 := by decide +kernel
theorem asleep_fn  : FnP Tryz.prog 4 [] (.bool false) := by
 refine FnP.of Tryz.func4 rfl rfl (by simp) (by simp [AV.cells, aIn, aOut, aAt, aMg, aEv, aRc, aRn, aAk, aKn, aEn, aQu, aIm, aSs, aRep, aLn, aCl, aRp]) (fun G hG => ?_)
 have hN : NoH G.length (.bool false) := (by simp [AV.cells, aIn, aOut, aAt, aMg, aEv, aRc, aRn, aAk, aKn, aEn, aQu, aIm, aSs, aRep, aLn, aCl, aRp])
 refine sr fun _ => ?_
 refine mz (sr fun _ => ?_)
 refine ARun.build rfl rfl rfl rfl so26 (.cons (ep rfl) (.cons (ep rfl) (.cons (ep rfl) (.cons (ep rfl) .nil)))) rfl rfl optN ?_
 refine ρf cf7 (fun hg => putM_fn mTop mTop_small mTop_fit) ?_
 refine mv ?_
 refine ρj ?_
 refine ρj ?_
 refine ma ?_
 refine mz (sr fun _ => ?_)
 refine mv ?_
 refine ρf cf5 (fun hg => takeM_fn (putM mTop) mTop_size) ?_
 refine mv ?_
 refine ρj ?_
 refine ρj ?_
 refine ρp (j := 0) zv26 ?_
 refine ρ8 sz26 ?_
 refine mz (sr fun _ => ?_)
 refine ARun.call rfl rfl rfl rfl cf10 (ep rfl) (.cons (ep rfl) .nil) rfl (fun hg => take_c ⟨#[]⟩ (by decide)) optN ?_
 refine mv ?_
 refine ρj ?_
 refine ρj ?_
 refine ρp (j := 1) zv44 ?_
 refine ρ8 sz44 ?_
 refine mz ?_
 refine AWP.seq ?_
 refine AWP.frzBox 3 hG rfl rfl rfl ?_
 refine AWP.region (fun _ => ?_)
 refine mv ?_
 refine ρr U28 ?_
 refine mv ?_
 refine ρh ?_
 refine ARun.isNil rfl rfl rfl rfl U28 (Ev.opt rfl (fun h => h)) (fun hg => by first | rfl | exact nilA_aEr _) (.inr ⟨rfl, rfl⟩) optS ?_
 refine ρ3 ?_
 refine mv ?_
 refine ρ5 U26 sz3 ?_
 refine ρ4 U3 ?_
 refine ρb ?_
 refine ρ3 ?_
 refine mv ?_
 refine ρh ?_
 refine ρi cf6 (fun hg => code_fn (takeErr ⟨#[]⟩)) ?_
 refine ρb ?_
 refine ρ3 ?_
 refine mz ?_
 refine AWP.ret ?_
 refine ρ9 ?_
 refine congrArg AV.bool ?_
 decide +kernel
theorem decode_fn (s : ByteArray) : FnP Tryz.prog 3 [.str s] (.bool true) := by
 refine FnP.of Tryz.func3 rfl rfl (by simp) (by simp [AV.cells, aIn, aOut, aAt, aMg, aEv, aRc, aRn, aAk, aKn, aEn, aQu, aIm, aSs, aRep, aLn, aCl, aRp]) (fun G hG => ?_)
 have hN : NoH G.length (.bool true) := (by simp [AV.cells, aIn, aOut, aAt, aMg, aEv, aRc, aRn, aAk, aKn, aEn, aQu, aIm, aSs, aRep, aLn, aCl, aRp])
 refine sr fun _ => ?_
 refine mz ?_
 refine AWP.seq (sr fun _ => ?_)
 refine mv ?_
 refine ARun.lenStr rfl rfl rfl rfl U9 (ep rfl) optN ?_
 refine ρ6 ?_
 refine mv ?_
 refine ARun.call rfl rfl rfl rfl cf4 (ep rfl) .nil rfl (fun hg => asleep_fn) optS ?_
 refine ρ3 ?_
 refine ez ?_
 refine ρo (fun h0 => ?_) (fun h0 => ?_)
 · refine sr fun _ => ?_
   refine ARun.call rfl rfl rfl rfl cf4 (ep rfl) .nil rfl (fun hg => asleep_fn) optN ?_
   refine ARun.not rfl rfl rfl rfl (ep rfl) optN ?_
   refine mz ?_
   refine AWP.ret (thenA_r ?_)
   refine ρ9 ?_
   rfl
 simp at h0
 have hs : s.size ≤ 17000 := by omega
 obtain ⟨w1, w2, w3, w4, w5, w6, w7⟩ := top_frames hs
 refine AWP.skip (thenA_n ?_)
 refine AWP.cut (fun σ G1 L1 => SubS σ [(0, .str s)] ∧ G1 = G ∧ L1 = [.dead]) ?_ (fun σ G1 L1 hG1 hR => ?_)
 · refine sr fun _ => ?_
   refine mv ?_
   refine ARun.call rfl rfl rfl rfl cf5 (ep rfl) (.cons (ep rfl) .nil) rfl (fun hg => takeM_fn s (by omega)) optN ?_
   refine mv ?_
   refine ρj ?_
   refine ρj ?_
   refine ρp (j := 0) zv26 ?_
   refine ρ8 sz26 ?_
   refine mz ?_
   refine AWP.seq ?_
   refine AWP.frzBox 3 hG rfl rfl rfl ?_
   refine AWP.region (fun _ => ?_)
   refine mv ?_
   refine ρf cf6 (fun hg => code_fn (takeMErr s)) ?_
   refine ρ6 ?_
   refine ez ?_
   refine ρo (fun h1 => ?_) (fun h1 => ?_)
   · simp at h1
     obtain ⟨q1, q2, q3, q4⟩ := top_msg hs h1
     refine sr fun _ => ?_
     refine ρl U26 sz26 ?_
     refine ρf cf7 (fun hg => putM_fn (takeM s) q1 q2) ?_
     refine mv ?_
     refine ρj ?_
     refine ρj ?_
     refine ma ?_
     refine mz (sr fun _ => ?_)
     refine mv ?_
     refine mv ?_
     refine ARun.cmpS rfl rfl rfl rfl (ep rfl) (ep rfl) rfl optN ?_
     refine mv ?_
     refine ρh ?_
     refine ρi cf6 (fun hg => code_fn (putMErr (takeM s))) ?_
     refine ρb ?_
     refine ρ3 ?_
     refine ez ?_
     refine ρo (fun h2 => ?_) (fun h2 => ?_)
     · rw [q3, q4] at h2; simp [show Er.none.code = 0 from rfl] at h2
     refine AWP.skip (thenA_n ?_)
     exact ⟨(by repeat (first | exact .nil | refine .cons rfl ?_)), rfl, rfl⟩
   refine AWP.skip (thenA_n ?_)
   exact ⟨(by repeat (first | exact .nil | refine .cons rfl ?_)), rfl, rfl⟩
 obtain ⟨hs9, hg9, hl9⟩ := hR
 rw [hg9, hl9]
 refine AWP.to [(0, .str s)] hs9 ?_
 refine AWP.cut (fun σ G1 L1 => SubS σ [(0, .str s)] ∧ G1 = G ∧ L1 = [.dead, .dead]) ?_ (fun σ G1 L1 hG1 hR => ?_)
 · refine sr fun _ => ?_
   refine mv ?_
   refine ARun.call rfl rfl rfl rfl cf8 (ep rfl) (.cons (ep rfl) .nil) rfl (fun hg => takeRec_fn s (by omega)) optN ?_
   refine mv ?_
   refine ρj ?_
   refine ρj ?_
   refine ρp (j := 1) zv38 ?_
   refine ρ8 sz38 ?_
   refine mz ?_
   refine AWP.seq ?_
   refine AWP.frzBox 7 hG rfl rfl rfl ?_
   refine AWP.region (fun _ => ?_)
   refine mv ?_
   refine ρf cf6 (fun hg => code_fn (takeRecErr s)) ?_
   refine ρ6 ?_
   refine ez ?_
   refine ρo (fun h3 => ?_) (fun h3 => ?_)
   · simp at h3
     obtain ⟨q3, q4⟩ := top_rec hs h3
     refine sr fun _ => ?_
     refine ρl U38 sz38 ?_
     refine ARun.call rfl rfl rfl rfl cf9 (ep rfl) (.cons (ep rfl) .nil) rfl (fun hg => putRec_fn (takeRec s) (takeRec_small (by omega)).1 (takeRec_small (by omega)).2) optN ?_
     refine mv ?_
     refine ρj ?_
     refine ρj ?_
     refine ma ?_
     refine mz (sr fun _ => ?_)
     refine mv ?_
     refine mv ?_
     refine ARun.cmpS rfl rfl rfl rfl (ep rfl) (ep rfl) rfl optN ?_
     refine mv ?_
     refine ρh ?_
     refine ρi cf6 (fun hg => code_fn (putRecErr (takeRec s))) ?_
     refine ρb ?_
     refine ρ3 ?_
     refine ez ?_
     refine ρo (fun h4 => ?_) (fun h4 => ?_)
     · rw [q3, q4] at h4; simp [show Er.none.code = 0 from rfl] at h4
     refine AWP.skip (thenA_n ?_)
     exact ⟨(by repeat (first | exact .nil | refine .cons rfl ?_)), rfl, rfl⟩
   refine AWP.skip (thenA_n ?_)
   exact ⟨(by repeat (first | exact .nil | refine .cons rfl ?_)), rfl, rfl⟩
 obtain ⟨hs9, hg9, hl9⟩ := hR
 rw [hg9, hl9]
 refine AWP.to [(0, .str s)] hs9 ?_
 refine AWP.cut (fun σ G1 L1 => SubS σ [(0, .str s)] ∧ G1 = G ∧ L1 = [.dead, .dead, .dead]) ?_ (fun σ G1 L1 hG1 hR => ?_)
 · refine sr fun _ => ?_
   refine mv ?_
   refine ARun.call rfl rfl rfl rfl cf10 (ep rfl) (.cons (ep rfl) .nil) rfl (fun hg => take_c s (by omega)) optN ?_
   refine mv ?_
   refine ρj ?_
   refine ρj ?_
   refine ρp (j := 2) zv44 ?_
   refine ρ8 sz44 ?_
   refine mz ?_
   refine AWP.seq ?_
   refine AWP.frzBox 11 hG rfl rfl rfl ?_
   refine AWP.region (fun _ => ?_)
   refine mv ?_
   refine ρf cf6 (fun hg => code_fn (takeErr s)) ?_
   refine ρ6 ?_
   refine ez ?_
   refine ρo (fun h5 => ?_) (fun h5 => ?_)
   · simp at h5
     obtain ⟨q3, q4⟩ := top_call hs h5
     refine sr fun _ => ?_
     refine ρl U44 sz44 ?_
     refine ARun.call rfl rfl rfl rfl cf11 (ep rfl) (.cons (ep rfl) .nil) rfl (fun hg => put_c (takeC s) (by have := takeC_len s; omega)) optN ?_
     refine mv ?_
     refine ρj ?_
     refine ρj ?_
     refine ma ?_
     refine mz (sr fun _ => ?_)
     refine mv ?_
     refine mv ?_
     refine ARun.cmpS rfl rfl rfl rfl (ep rfl) (ep rfl) rfl optN ?_
     refine mv ?_
     refine ρh ?_
     refine ρi cf6 (fun hg => code_fn (Er.new tCall (checkP (takeC s)))) ?_
     refine ρb ?_
     refine ρ3 ?_
     refine ez ?_
     refine ρo (fun h6 => ?_) (fun h6 => ?_)
     · rw [q3, q4] at h6; simp [show Er.none.code = 0 from rfl] at h6
     refine AWP.skip (thenA_n ?_)
     exact ⟨(by repeat (first | exact .nil | refine .cons rfl ?_)), rfl, rfl⟩
   refine AWP.skip (thenA_n ?_)
   exact ⟨(by repeat (first | exact .nil | refine .cons rfl ?_)), rfl, rfl⟩
 obtain ⟨hs9, hg9, hl9⟩ := hR
 rw [hg9, hl9]
 refine AWP.to [(0, .str s)] hs9 ?_
 refine AWP.cut (fun σ G1 L1 => SubS σ [(0, .str s)] ∧ G1 = G ∧ L1 = [.dead, .dead, .dead, .dead]) ?_ (fun σ G1 L1 hG1 hR => ?_)
 · refine sr fun _ => ?_
   refine mv ?_
   refine ARun.call rfl rfl rfl rfl cf12 (ep rfl) (.cons (ep rfl) .nil) rfl (fun hg => takeR_c s (by omega)) optN ?_
   refine mv ?_
   refine ρj ?_
   refine ρj ?_
   refine ρp (j := 3) zv49 ?_
   refine ρ8 sz49 ?_
   refine mz ?_
   refine AWP.seq ?_
   refine AWP.frzBox 15 hG rfl rfl rfl ?_
   refine AWP.region (fun _ => ?_)
   refine mv ?_
   refine ρf cf6 (fun hg => code_fn (takeRErr s)) ?_
   refine ρ6 ?_
   refine ez ?_
   refine ρo (fun h7 => ?_) (fun h7 => ?_)
   · simp at h7
     obtain ⟨q3, q4⟩ := top_rep hs h7
     refine sr fun _ => ?_
     refine ρl U49 sz49 ?_
     refine ARun.call rfl rfl rfl rfl cf13 (ep rfl) (.cons (ep rfl) .nil) rfl (fun hg => putR_c (takeR s) (by have := takeR_len s; omega) (takeR_fit (by omega))) optN ?_
     refine mv ?_
     refine ρj ?_
     refine ρj ?_
     refine ma ?_
     refine mz (sr fun _ => ?_)
     refine mv ?_
     refine mv ?_
     refine ARun.cmpS rfl rfl rfl rfl (ep rfl) (ep rfl) rfl optN ?_
     refine mv ?_
     refine ρh ?_
     refine ρi cf6 (fun hg => code_fn (Er.new tReply (repE (takeR s)))) ?_
     refine ρb ?_
     refine ρ3 ?_
     refine ez ?_
     refine ρo (fun h8 => ?_) (fun h8 => ?_)
     · rw [q3, q4] at h8; simp [show Er.none.code = 0 from rfl] at h8
     refine AWP.skip (thenA_n ?_)
     exact ⟨(by repeat (first | exact .nil | refine .cons rfl ?_)), rfl, rfl⟩
   refine AWP.skip (thenA_n ?_)
   exact ⟨(by repeat (first | exact .nil | refine .cons rfl ?_)), rfl, rfl⟩
 obtain ⟨hs9, hg9, hl9⟩ := hR
 rw [hg9, hl9]
 refine AWP.to [(0, .str s)] hs9 ?_
 refine AWP.cut (fun σ G1 L1 => SubS σ [(0, .str s)] ∧ G1 = G ∧ L1 = [.dead, .dead, .dead, .dead, .dead]) ?_ (fun σ G1 L1 hG1 hR => ?_)
 · refine sr fun _ => ?_
   refine mv ?_
   refine ρf cf14 (fun hg => takeI_fn s hs) ?_
   refine mv ?_
   refine ρj ?_
   refine ρj ?_
   refine ρp (j := 4) zv64 ?_
   refine ρ8 sz64 ?_
   refine mz ?_
   refine AWP.seq ?_
   refine AWP.frzBox 19 hG rfl rfl rfl ?_
   refine AWP.region (fun _ => ?_)
   refine mv ?_
   refine ρf cf6 (fun hg => code_fn (takeIE s)) ?_
   refine ρ6 ?_
   refine ez ?_
   refine ρo (fun h9 => ?_) (fun h9 => ?_)
   · simp at h9
     obtain ⟨q1, q2, q5, q6, q7, q3⟩ := top_img hs h9
     refine sr fun _ => ?_
     refine ρl U64 sz64 ?_
     refine ρf cf15 (fun hg => putI_fn (takeI s) q1 q2 q5 q6 q7) ?_
     refine mv ?_
     refine ρj ?_
     refine ρj ?_
     refine ma ?_
     refine mz (sr fun _ => ?_)
     refine mv ?_
     refine mv ?_
     refine ARun.cmpS rfl rfl rfl rfl (ep rfl) (ep rfl) rfl optN ?_
     refine mv ?_
     refine ρh ?_
     refine ρi cf6 (fun hg => code_fn .none) ?_
     refine ρb ?_
     refine ρ3 ?_
     refine ez ?_
     refine ρo (fun h10 => ?_) (fun h10 => ?_)
     · rw [q3] at h10; simp [show Er.none.code = 0 from rfl] at h10
     refine AWP.skip (thenA_n ?_)
     exact ⟨(by repeat (first | exact .nil | refine .cons rfl ?_)), rfl, rfl⟩
   refine AWP.skip (thenA_n ?_)
   exact ⟨(by repeat (first | exact .nil | refine .cons rfl ?_)), rfl, rfl⟩
 obtain ⟨hs9, hg9, hl9⟩ := hR
 rw [hg9, hl9]
 refine AWP.to [(0, .str s)] hs9 ?_
 refine sr fun _ => ?_
 refine mv ?_
 refine ARun.call rfl rfl rfl rfl cf16 (ep rfl) (.cons (ep rfl) .nil) rfl (fun hg => Fm.all_fn s (by omega)) optN ?_
 refine mv ?_
 refine ρj ?_
 refine ρj ?_
 refine ma ?_
 refine mz (sr fun _ => ?_)
 refine mv ?_
 refine ρf cf17 (fun hg => Fm.join_fn (Fm.allP s).1 w1 w2 w3) ?_
 refine mv ?_
 refine ρj ?_
 refine ρj ?_
 refine ma ?_
 refine mz (sr fun _ => ?_)
 refine mv ?_
 refine ρ6 ?_
 refine mv ?_
 refine ρh ?_
 refine ρb ?_
 refine ρ1 ?_
 refine mv ?_
 refine ρh ?_
 refine ρh ?_
 refine ARun.lenStr rfl rfl rfl rfl U9 (Ev.opt rfl (fun h => h)) optS ?_
 refine ρm ?_
 refine ρ1 ?_
 refine mv ?_
 refine ρh ?_
 refine ρh ?_
 refine ρh ?_
 refine ARun.cutStr (a := 0) (b := (Fm.allP s).2.toNat) rfl rfl rfl rfl U9 (Ev.opt rfl (fun h => h)) (fun _ => rfl) ⟨_, _, (Ev.opt rfl (fun h => h)), fun hg => (by (try simp at hg); omega)⟩ (fun hg => (by (try simp at hg); omega)) rfl optS ?_
 refine ARun.cmpS rfl rfl rfl rfl (Ev.opt rfl (fun h => h)) (Ev.opt rfl (fun h => h)) rfl optS ?_
 refine ρ1 ?_
 refine mv ?_
 refine ARun.call rfl rfl rfl rfl cf4 (ep rfl) .nil rfl (fun hg => asleep_fn) optS ?_
 refine ARun.not rfl rfl rfl rfl (Ev.opt rfl (fun h => h)) optS ?_
 refine ρ1 ?_
 refine mz ?_
 refine AWP.ret ?_
 refine ρ9 ?_
 refine congrArg AV.bool ?_
 simp [w4, w5, w6, w7]
end Go.Proofs.YtnlpojjfkgnhhaaGreatDoor
namespace Go.Proofs.YtnlpojjfkgnhhaaGreatDoor
open Go.ChangeShapes Go.WideShapes Go.ChangeAt Go.RowKit
def CL (W : World) (cs : List Value) (ys : List AV) : Prop := cs.length = ys.length ∧ ∀ (j : Nat) (u : Value) (z : AV), cs[j]? = some u → ys[j]? = some z → VRep [] W u z
theorem CL.one {W : World} {u : Value} {z : AV} (h : VRep [] W u z) : CL W [u] [z] := ⟨rfl, fun j u' z' h1 h2 => by
 cases j with
 | zero => simp at h1 h2; subst h1 h2; exact h
 | succ j => simp at h1⟩
theorem CL.last {W : World} {l : List Value} {o s : Nat} {a : List AV} (h : CL W ((l.drop o).take s) a) (hl : l.length = o + s) : CL W (l.drop o) a := by
 rwa [List.take_of_length_le (by simp; omega)] at h
def Opn (P : Program) (T : TypeId) {α : Type} (av : α → AV) (good : α → Prop) : Prop :=
 ∀ {H : Type} (encH : TypeId × Value → H) (W : World) (bb : Nat) (spare : Nat → Bool) (held : Bool) (m : Nat) (cs : List Value) (y : DataW H × List MemPlace), DataW.trod encH P W bb spare held m T cs = some y → ∃ x : α, CL W cs (av x).cells ∧ good x
theorem opn_str {P : Program} {T : TypeId} (ht : P.underlying T = some .string) : Opn P T AV.str (fun s => s.size ≤ maxLen) := by
 intro H encH W bb spare held m cs y h
 obtain ⟨n, rfl, _, hw⟩ := DataW.trod_string ht h
 exact ⟨n, CL.one (.str _), hw⟩
section
variable {P : Program} {T : TypeId} {α : Type} {av : α → AV} {good : α → Prop} {H : Type} {encH : TypeId × Value → H} {W : World} {b0 bb : Nat} {spare : Nat → Bool} {held : Bool} {v : Value} {d : DataW H} {p : List MemPlace} {r : Reach}
theorem top_one (ho : Opn P T av good) (hc : v.cells = #[v]) (h1 : ∀ x, (av x).cells = [av x]) (h : DataW.Trod encH P W bb spare held T v d p) : ∃ x : α, VRep [] W v (av x) ∧ good x := by
 obtain ⟨fuel, hf⟩ := h
 obtain ⟨x, hx, hg⟩ := ho encH W bb spare held fuel _ _ hf
 rw [hc, h1] at hx
 exact ⟨x, hx.2 0 _ _ rfl rfl, hg⟩
theorem top_str (ht : P.underlying T = some .string) (ho : Opn P T av good) (h1 : ∀ x, (av x).cells = [av x]) (hv : Value.okWide P W r b0 T v) (h : DataW.Trod encH P W bb spare held T v d p) : ∃ x : α, VRep [] W v (av x) ∧ good x := by
 obtain ⟨n, rfl⟩ := okWide_string ht hv
 exact top_one ho rfl h1 h
end
end Go.Proofs.YtnlpojjfkgnhhaaGreatDoor
namespace Go.Proofs.YtnlpojjfkgnhhaaGreatDoor
open Go.RowKit
open NumP
open Go.WideShapes
theorem topDecode_law (W : World) (hg : GOk [] W) (v0 : Value) (x0 : ByteArray) (rp0 : VRep [] W v0 (AV.str x0)) (gd0 : (fun s => s.size ≤ maxLen) x0) :
   Calls Tryz.prog 3 #[v0] W fun e W' => e = .returned (.bool true) ∧ Below W.heap.size W W' := by
 skip
 exact law_of_fn (decode_fn x0 ) hg (.cons rp0 (.nil))
end Go.Proofs.YtnlpojjfkgnhhaaGreatDoor
