/- The texts that the law ServiceApplies rests on, part 4: SessPut, AmSessC, SessLaw, BasketPlain, BasketLawP, BasketLawP2, AmStockC, AmNum, TextLaw, AmText, AmLaw, CloneLib, CloneI, AmCl, AmBask, CallLaw, ServPlain, AmTextR. -/
import Derived.Test.YtgebpndhnkkbgaaGreatDoorSvA3
import Derived.WideShapes
open Go.Proofs.Tryz renaming underlying3 → U3, underlying4 → U4, underlying9 → U9, underlying22 → U22, underlying23 → U23, underlying25 → U25, underlying28 → U28, underlying29 → U29, underlying31 → U31, underlying37 → U37, underlying53 → U53, underlying60 → U60, underlying64 → U64, underlying100 → U100, underlying108 → U108, underlying131 → U131, underlying139 → U139, underlying165 → U165, underlying172 → U172, underlying178 → U178, underlying211 → U211
namespace Go.Proofs.YtgebpndhnkkbgaaGreatDoor.Ssn
set_option linter.unusedVariables false
set_option linter.unusedSimpArgs false
open SessP
theorem idxOf_nil {α : Type} (p : α → Bool) : idxOf p [] = -1 := by simp [idxOf]
theorem idxOf_cons {α : Type} (p : α → Bool) (x : α) (l : List α) : idxOf p (x :: l) = if p x = true then 0 else if 0 ≤ idxOf p l then idxOf p l + 1 else -1 := by
  unfold idxOf
  rw [List.findIdx?_cons]
  by_cases h : p x = true
  · simp [h]
  · rw [if_neg h, if_neg h]
    cases l.findIdx? p with
    | none => simp
    | some i => simp
theorem idxOf_hit {α : Type} {p : α → Bool} {x : α} (l : List α) (h : p x = true) : idxOf p (x :: l) = 0 := by rw [idxOf_cons, if_pos h]
theorem idxOf_far {α : Type} {p : α → Bool} {x : α} {l : List α} (h : p x = false) (h2 : 0 ≤ idxOf p l) : idxOf p (x :: l) = idxOf p l + 1 := by rw [idxOf_cons, if_neg (by simp [h]), if_pos h2]
theorem idxOf_mis {α : Type} {p : α → Bool} {x : α} {l : List α} (h : p x = false) (h2 : ¬ 0 ≤ idxOf p l) : idxOf p (x :: l) = -1 := by rw [idxOf_cons, if_neg (by simp [h]), if_neg h2]
theorem idxOf_ge {α : Type} (p : α → Bool) (l : List α) : -1 ≤ idxOf p l := (idx_range p l).1
def asc : Int → List Se → Prop
  | _, [] => True
  | p, x :: l => p < x.client ∧ asc x.client l
theorem asc_of_ok : ∀ (l : List Se) (p : Int), okFrom p l = true → asc p l := by
  intro l
  induction l with
  | nil => intro p _; trivial
  | cons x l ih =>
    intro p h
    simp only [okFrom, Bool.and_eq_true, decide_eq_true_eq] at h
    exact ⟨h.1.2, ih _ h.2⟩
theorem asc_all : ∀ (l : List Se) (p : Int), asc p l → ∀ x, x ∈ l → p < x.client := by
  intro l
  induction l with
  | nil => intro p _ x hx; cases hx
  | cons y l ih =>
    intro p h x hx
    rcases List.mem_cons.1 hx with rfl | hx
    · exact h.1
    · exact Int.lt_trans h.1 (ih _ h.2 x hx)
theorem idxOf_no {α : Type} (p : α → Bool) (l : List α) (h : ∀ x, x ∈ l → p x = false) : idxOf p l = -1 := by
  unfold idxOf
  rw [List.findIdx?_eq_none_iff.2 (fun x hx => by simp [h x hx])]
def putR : List Se → Se → List Se
  | [], s => [s]
  | x :: t, s => if x.client < s.client then x :: putR t s else if x.client = s.client then s :: t else s :: x :: t
theorem putP_eq : ∀ (l : List Se) (s : Se) (p : Int), asc p l → putP l s = putR l s := by
  intro l
  induction l with
  | nil => intro s p _; simp [putP, putR, idxOf_nil]
  | cons x l ih =>
    intro s p h
    have hr1 := idxOf_ge (fun x : Se => decide (x.client = s.client)) l
    have hr2 := idxOf_ge (fun x : Se => decide (s.client < x.client)) l
    unfold putR
    by_cases h1 : x.client < s.client
    · rw [if_pos h1, ← ih s _ h.2]
      have n1 : (fun x : Se => decide (x.client = s.client)) x = false := by simp; omega
      have n2 : (fun x : Se => decide (s.client < x.client)) x = false := by simp; omega
      unfold putP
      by_cases c1 : 0 ≤ idxOf (fun x : Se => decide (x.client = s.client)) l
      · rw [idxOf_far (p := fun x : Se => decide (x.client = s.client)) (x := x) (l := l) n1 c1, if_pos (by omega), if_pos c1, show (idxOf (fun x : Se => decide (x.client = s.client)) l + 1).toNat = (idxOf (fun x : Se => decide (x.client = s.client)) l).toNat + 1 by omega]
        rfl
      · rw [idxOf_mis (p := fun x : Se => decide (x.client = s.client)) (x := x) (l := l) n1 c1, if_neg (by omega), if_neg c1]
        by_cases c2 : 0 ≤ idxOf (fun x : Se => decide (s.client < x.client)) l
        · rw [idxOf_far (p := fun x : Se => decide (s.client < x.client)) (x := x) (l := l) n2 c2, if_neg (by omega), if_neg (by omega), show (idxOf (fun x : Se => decide (s.client < x.client)) l + 1).toNat = (idxOf (fun x : Se => decide (s.client < x.client)) l).toNat + 1 by omega]
          rfl
        · rw [idxOf_mis (p := fun x : Se => decide (s.client < x.client)) (x := x) (l := l) n2 c2, if_pos (by omega), if_pos (by omega)]
          rfl
    · rw [if_neg h1]
      by_cases h2 : x.client = s.client
      · rw [if_pos h2]
        unfold putP
        rw [idxOf_hit l (p := fun x : Se => decide (x.client = s.client)) (by simpa using h2), if_pos (by omega)]
        rfl
      · rw [if_neg h2]
        have hn := asc_all l _ h.2
        have n1 : (fun x : Se => decide (x.client = s.client)) x = false := by simpa using h2
        have n2 : (fun x : Se => decide (s.client < x.client)) x = true := by simp; omega
        unfold putP
        rw [idxOf_mis (p := fun x : Se => decide (x.client = s.client)) (x := x) (l := l) n1 (by rw [idxOf_no _ l (fun y hy => by have := hn y hy; simp; omega)]; omega), if_neg (by omega), idxOf_hit (p := fun x : Se => decide (s.client < x.client)) (x := x) l n2, if_neg (by omega)]
        rfl
theorem flt_none (l : List Se) (q : Se → Bool) (h : ∀ x, x ∈ l → q x = false) : l.filter q = [] := List.filter_eq_nil_iff.2 fun x hx => by simp [h x hx]
theorem flt_all (l : List Se) (q : Se → Bool) (h : ∀ x, x ∈ l → q x = true) : l.filter q = l := List.filter_eq_self.2 h
theorem putR_eq : ∀ (l : List Se) (s : Se) (p : Int), asc p l → putR l s = l.filter (fun x => decide (x.client < s.client)) ++ [s] ++ l.filter (fun x => decide (s.client < x.client)) := by
  intro l
  induction l with
  | nil => intro s p _; rfl
  | cons x l ih =>
    intro s p h
    have hn := asc_all l _ h.2
    unfold putR
    by_cases h1 : x.client < s.client
    · rw [if_pos h1, ih s _ h.2, List.filter_cons_of_pos (by simpa using h1), List.filter_cons_of_neg (by simp; omega)]; rfl
    · rw [if_neg h1, List.filter_cons_of_neg (by simpa using h1), flt_none l (fun x => decide (x.client < s.client)) (fun y hy => by have := hn y hy; simp; omega)]
      by_cases h2 : x.client = s.client
      · rw [if_pos h2, List.filter_cons_of_neg (by simp; omega), flt_all l _ (fun y hy => by have := hn y hy; simp; omega)]; rfl
      · rw [if_neg h2, List.filter_cons_of_pos (by simp; omega), flt_all l _ (fun y hy => by have := hn y hy; simp; omega)]; rfl
theorem okE_ok {l : List Se} (h : okE l = 0) : l.length ≤ 20 ∧ okFrom 0 l = true := by
  unfold okE ok at h
  split at h
  · rename_i h2; simpa using h2
  · cases h
theorem askP_ok {l : List Se} {c q : Int} (h : (askP l c q).2.2 = 0) : okE l = 0 ∧ numB c = true ∧ numB q = true := by
  unfold askP at h
  split at h
  · assumption
  · cases h
theorem put_filter {l : List Se} {s : Se} (h : (askP l s.client s.seq).2.2 = 0) : putP l s = l.filter (fun x => decide (x.client < s.client)) ++ [s] ++ l.filter (fun x => decide (s.client < x.client)) := by
  have ha := asc_of_ok l 0 (okE_ok (askP_ok h).1).2
  rw [putP_eq l s 0 ha, putR_eq l s 0 ha]
theorem may_of_ask {l : List Se} {s : Se} (h : (askP l s.client s.seq).2.2 = 0) : may s = decide (s.reply.size ≤ 300) := by
  obtain ⟨_, h1, h2⟩ := askP_ok h
  unfold may; rw [h1, h2]; rfl
theorem numB_iff (n : Int) : numB n = true ↔ 1 ≤ n ∧ n ≤ 99999 := by unfold numB; simp
theorem map_snoc {α β : Type} (f : α → β) (l : List α) (x : α) : l.map f ++ [f x] = (l ++ [x]).map f := by simp
theorem flt_yes {q : Se → Bool} {l : List Se} {k : Nat} (hk : k < l.length) (h : q (l.getD k default) = true) : (l.take k).filter q ++ [l.getD k default] = (l.take (k + 1)).filter q := by
  rw [List.take_succ_eq_append_getElem hk, List.filter_append, ← Se_idx hk]; congr 1; simp only [List.filter, h]
theorem flt_no {q : Se → Bool} {l : List Se} {k : Nat} (hk : k < l.length) (h : q (l.getD k default) = false) : (l.take k).filter q = (l.take (k + 1)).filter q := by
  rw [List.take_succ_eq_append_getElem hk, List.filter_append, ← Se_idx hk]; simp only [List.filter, h, List.append_nil]
/-! ### what the laws ask -/
theorem okFrom_iff : ∀ (l : List Se) (p : Int), okFrom p l = true ↔ (∀ x, x ∈ l → may x = true) ∧ asc p l := by
  intro l
  induction l with
  | nil => intro p; simp [okFrom, asc]
  | cons x l ih =>
    intro p
    simp only [okFrom, Bool.and_eq_true, decide_eq_true_eq, ih, asc, List.mem_cons, forall_eq_or_imp]
    constructor
    · rintro ⟨⟨a, b⟩, c, d⟩; exact ⟨⟨a, c⟩, b, d⟩
    · rintro ⟨⟨a, c⟩, b, d⟩; exact ⟨⟨a, b⟩, c, d⟩
theorem putR_asc : ∀ (l : List Se) (s : Se) (p : Int), asc p l → p < s.client → asc p (putR l s) := by
  intro l
  induction l with
  | nil => intro s p _ h; exact ⟨h, trivial⟩
  | cons x l ih =>
    intro s p h hp
    unfold putR
    split
    · rename_i h1; exact ⟨h.1, ih s _ h.2 h1⟩
    · split
      · rename_i h1 h2; exact ⟨hp, h2 ▸ h.2⟩
      · rename_i h1 h2; exact ⟨hp, by omega, h.2⟩
theorem putR_mem : ∀ (l : List Se) (s x : Se), x ∈ putR l s → x = s ∨ x ∈ l := by
  intro l
  induction l with
  | nil => intro s x h; simpa [putR] using h
  | cons y l ih =>
    intro s x h
    unfold putR at h
    split at h
    · rcases List.mem_cons.1 h with rfl | h
      · exact .inr List.mem_cons_self
      · rcases ih s x h with h | h
        · exact .inl h
        · exact .inr (List.mem_cons_of_mem _ h)
    · split at h
      · rcases List.mem_cons.1 h with rfl | h
        · exact .inl rfl
        · exact .inr (List.mem_cons_of_mem _ h)
      · rcases List.mem_cons.1 h with rfl | h
        · exact .inl rfl
        · exact .inr h
theorem findP_nil (c : Int) : findP [] c = (default, false) := by unfold findP; rw [idxOf_nil, if_neg (by omega)]
theorem findP_cons (x : Se) (l : List Se) (c : Int) : findP (x :: l) c = if x.client = c then (x, true) else findP l c := by
  by_cases h : x.client = c
  · rw [if_pos h]
    unfold findP
    rw [idxOf_hit l (p := fun x : Se => decide (x.client = c)) (by simpa using h), if_pos (by omega)]; rfl
  · rw [if_neg h]
    have n1 : (fun x : Se => decide (x.client = c)) x = false := by simpa using h
    unfold findP
    by_cases h2 : 0 ≤ idxOf (fun x : Se => decide (x.client = c)) l
    · rw [idxOf_far (p := fun x : Se => decide (x.client = c)) (x := x) (l := l) n1 h2, if_pos h2, if_pos (by omega), show (idxOf (fun x : Se => decide (x.client = c)) l + 1).toNat = (idxOf (fun x : Se => decide (x.client = c)) l).toNat + 1 by omega]; rfl
    · rw [idxOf_mis (p := fun x : Se => decide (x.client = c)) (x := x) (l := l) n1 h2, if_neg h2, if_neg (by omega)]
theorem findP_no {l : List Se} {c : Int} (h : ∀ x, x ∈ l → x.client ≠ c) : findP l c = (default, false) := by
  unfold findP
  rw [idxOf_no _ l (fun x hx => by simpa using h x hx), if_neg (by omega)]
theorem putR_len : ∀ (l : List Se) (s : Se) (p : Int), asc p l → (putR l s).length ≤ l.length + 1 ∧ ((findP l s.client).2 = true → (putR l s).length = l.length) := by
  intro l
  induction l with
  | nil => intro s p _; simp [putR, findP_nil]
  | cons x l ih =>
    intro s p h
    obtain ⟨h1, h2⟩ := ih s _ h.2
    have hn := asc_all l _ h.2
    unfold putR
    rw [findP_cons]
    split
    · rename_i hx
      rw [if_neg (by omega)]
      simp only [List.length_cons]
      exact ⟨by omega, fun h => by rw [h2 h]⟩
    · split
      · simp
      · rename_i a b
        rw [findP_no (fun y hy => by have := hn y hy; omega)]
        simp
end Go.Proofs.YtgebpndhnkkbgaaGreatDoor.Ssn
namespace Go.Proofs.YtgebpndhnkkbgaaGreatDoor.Ssn
set_option linter.unusedVariables false
set_option linter.unusedSimpArgs false
open Go.RowKit
open SessP
set_option maxRecDepth 100000
set_option maxHeartbeats 1000000 in
theorem askR_fn (l : List Se) (c q : Int) (hl : l.length ≤ 9223372036854775807) : FnP Tryz.prog 54 [.sl (l.map aSe), .int .i64 c, .int .i64 q] (.tup [.str (askP l c q).1, .bool (askP l c q).2.1, .int .i64 (askP l c q).2.2]) := by
  have hid := findP_id (l := l) (c := c)
  have h20 := fun h : okE l = 0 => (okE_ok h).1
  have hn := fun n => numB_iff n
  refine FnP.of Tryz.func54 rfl rfl (by simp) (by simp [AV.cells, aSe]) (fun G hG => ?_)
  have hN : NoH G.length (.tup [.str (askP l c q).1, .bool (askP l c q).2.1, .int .i64 (askP l c q).2.2]) := (by simp [AV.cells, aSe])
  refine sr fun _ => ?_
  refine ma ?_
  refine ma ?_
  refine mz ?_
  refine AWP.seq ?_
  refine sr fun _ => ?_
  refine mv ?_
  refine ρm cf45 (fun hg => checkR_fn l) ?_
  refine ρ2 ?_
  refine mv ?_
  refine ρk ?_
  refine ρ9 ?_
  refine ρ3 ?_
  refine mv ?_
  refine ρk ?_
  refine ρ9 ?_
  refine ρ3 ?_
  refine mv ?_
  refine ρk ?_
  refine ρ9 ?_
  refine ρ3 ?_
  refine mv ?_
  refine ρk ?_
  refine ρ9 ?_
  refine ρ3 ?_
  refine ez ?_
  refine ρp (fun h0 => ?_) (fun h0 => ?_)
  · simp at h0
    refine sr fun _ => ?_
    refine ma ?_
    refine ma ?_
    refine mz ?_
    refine AWP.ret (thenA_r ?_)
    refine ρf (rs := [.tmp 6, .tmp 7, .tmp 8]) (.cons (.tmp rfl) (.cons (.tmp rfl) (.cons (.tmp rfl) .nil))) ?_
    unfold askP; rw [if_neg (by rintro ⟨a, b, c⟩; rw [hn] at b c; omega)]; rfl
  simp at h0
  refine AWP.skip (thenA_n ?_)
  refine sr fun _ => ?_
  refine mv ?_
  refine mv ?_
  refine ρg cf92 (fun hg => findR_fn l c hl) ?_
  refine mv ?_
  refine ρ6 ?_
  refine ρ6 ?_
  refine ρo (j := 0) zv60 ?_
  refine ρ1 sz60 ?_
  refine mz ?_
  refine AWP.seq ?_
  refine sr fun _ => ?_
  refine mv ?_
  refine ρC ?_
  refine ez ?_
  refine ρp (fun h1 => ?_) (fun h1 => ?_)
  · simp at h1
    refine AWP.seq ?_
    refine sr fun _ => ?_
    refine mv ?_
    refine ρv U37 ?_
    refine ρ2 ?_
    refine ez ?_
    refine ρp (fun h2 => ?_) (fun h2 => ?_)
    · simp at h2
      refine sr fun _ => ?_
      refine ma ?_
      refine ma ?_
      refine mz ?_
      refine AWP.ret (thenA_r (thenA_r ?_))
      refine ρf (rs := [.tmp 6, .tmp 7, .tmp 8]) (.cons (.tmp rfl) (.cons (.tmp rfl) (.cons (.tmp rfl) .nil))) ?_
      unfold askP; rw [if_pos ⟨by omega, (hn _).2 (by omega), (hn _).2 (by omega)⟩, if_neg (by simp [h1]), if_pos (by omega)]; rfl
    simp at h2
    refine AWP.skip (thenA_n ?_)
    refine sr fun _ => ?_
    refine ma ?_
    refine ma ?_
    refine mz ?_
    refine AWP.ret (thenA_r ?_)
    refine ρf (rs := [.tmp 6, .tmp 7, .tmp 8]) (.cons (.tmp rfl) (.cons (.tmp rfl) (.cons (.tmp rfl) .nil))) ?_
    unfold askP; rw [if_pos ⟨by omega, (hn _).2 (by omega), (hn _).2 (by omega)⟩, if_neg (by simp [h1]), if_neg (by have := h20 (by omega); omega)]; rfl
  simp at h1
  refine AWP.skip (thenA_n (AWP.seq ?_))
  refine sr fun _ => ?_
  refine ρ4 (fo := 1) U60 sz3 ?_
  refine ρd U3 ?_
  refine mv ?_
  refine ρ2 ?_
  refine ez ?_
  refine ρp (fun h3 => ?_) (fun h3 => ?_)
  · simp at h3
    refine sr fun _ => ?_
    refine ρ4 (fo := 2) U60 sz9 ?_
    refine ρd U9 ?_
    refine ma ?_
    refine ma ?_
    refine mz ?_
    refine AWP.ret (thenA_r ?_)
    refine ρf (rs := [.tmp 6, .tmp 7, .tmp 8]) (.cons (.tmp rfl) (.cons (.tmp rfl) (.cons (.tmp rfl) .nil))) ?_
    unfold askP; rw [if_pos ⟨by omega, (hn _).2 (by omega), (hn _).2 (by omega)⟩, if_pos h1, if_pos h3]; rfl
  simp at h3
  refine AWP.skip (thenA_n (AWP.seq ?_))
  refine sr fun _ => ?_
  refine ρ4 (fo := 1) U60 sz3 ?_
  refine ρd U3 ?_
  refine mv ?_
  refine ρ2 ?_
  refine ez ?_
  refine ρp (fun h4 => ?_) (fun h4 => ?_)
  · simp at h4
    refine sr fun _ => ?_
    refine ma ?_
    refine ma ?_
    refine mz ?_
    refine AWP.ret (thenA_r ?_)
    refine ρf (rs := [.tmp 6, .tmp 7, .tmp 8]) (.cons (.tmp rfl) (.cons (.tmp rfl) (.cons (.tmp rfl) .nil))) ?_
    unfold askP; rw [if_pos ⟨by omega, (hn _).2 (by omega), (hn _).2 (by omega)⟩, if_pos h1, if_neg h3, if_pos h4]; rfl
  simp at h4
  refine AWP.skip (thenA_n ?_)
  refine sr fun _ => ?_
  refine ma ?_
  refine ma ?_
  refine mz ?_
  refine AWP.ret ?_
  refine ρf (rs := [.tmp 6, .tmp 7, .tmp 8]) (.cons (.tmp rfl) (.cons (.tmp rfl) (.cons (.tmp rfl) .nil))) ?_
  unfold askP; rw [if_pos ⟨by omega, (hn _).2 (by omega), (hn _).2 (by omega)⟩, if_pos h1, if_neg h3, if_neg (by omega)]; rfl
set_option maxHeartbeats 1000000 in
theorem noteR_fn (l : List Se) (s : Se) (hl : l.length ≤ 1000) : FnP Tryz.prog 55 [.sl (l.map aSe), aSe s] (.tup [.sl ((noteP l s).1.map aSe), .int .i64 (noteP l s).2]) := by
  refine FnP.of Tryz.func55 rfl rfl (by simp) (by simp [AV.cells, aSe]) (fun G hG => ?_)
  have hN : NoH G.length (.tup [.sl ((noteP l s).1.map aSe), .int .i64 (noteP l s).2]) := (by simp [AV.cells, aSe])
  refine sr fun _ => ?_
  refine ARun.box (j := 0) hG rfl rfl rfl rfl rfl (ep rfl) rfl rfl optN ?_
  refine ma ?_
  refine mz ?_
  refine sr fun _ => ?_
  refine mv ?_
  refine ρ4 (fo := 0) U60 sz3 ?_
  refine ρd U3 ?_
  refine ρ4 (fo := 1) U60 sz3 ?_
  refine ρd U3 ?_
  refine ARun.call rfl rfl rfl rfl cf54 (ep rfl) (.cons (ep rfl) (.cons (ep rfl) (.cons (ep rfl) .nil))) rfl (fun hg => askR_fn l s.client s.seq (by omega)) optN ?_
  refine mv ?_
  refine ρ6 ?_
  refine ρ6 ?_
  refine ρ6 ?_
  refine ma ?_
  refine ma ?_
  refine mz ?_
  refine AWP.seq ?_
  refine sr fun _ => ?_
  refine mv ?_
  refine ρ2 ?_
  refine ez ?_
  refine ρp (fun h0 => ?_) (fun h0 => ?_)
  · try simp [-List.getD_eq_getElem?_getD] at h0
    refine sr fun _ => ?_
    refine mv ?_
    refine ma ?_
    refine mz ?_
    refine AWP.ret (thenA_r ?_)
    refine ρf (rs := [.tmp 4, .tmp 5]) (.cons (.tmp rfl) (.cons (.tmp rfl) .nil)) ?_
    rw [show noteP l s = ([], (askP l s.client s.seq).2.2) from by unfold noteP; rw [if_neg h0]]; rfl
  try simp [-List.getD_eq_getElem?_getD] at h0
  refine AWP.skip (thenA_n (AWP.seq ?_))
  refine sr fun _ => ?_
  refine ρ4 (fo := 2) U60 sz9 ?_
  refine ρd U9 ?_
  refine ARun.lenStr rfl rfl rfl rfl U9 (ep rfl) optN ?_
  refine ρ2 ?_
  refine ez ?_
  refine ρp (fun h1 => ?_) (fun h1 => ?_)
  · try simp [-List.getD_eq_getElem?_getD] at h1
    refine sr fun _ => ?_
    refine ma ?_
    refine mz ?_
    refine AWP.ret (thenA_r ?_)
    refine ρf (rs := [.tmp 4, .tmp 5]) (.cons (.tmp rfl) (.cons (.tmp rfl) .nil)) ?_
    rw [show noteP l s = ([], 2) from by unfold noteP; rw [if_pos h0, if_neg (by rw [may_of_ask h0]; simp; omega)]]; rfl
  try simp [-List.getD_eq_getElem?_getD] at h1
  refine AWP.skip (thenA_n (AWP.seq ?_))
  refine sr fun _ => ?_
  refine mv ?_
  refine ez ?_
  refine ρp (fun h2 => ?_) (fun h2 => ?_)
  · try simp [-List.getD_eq_getElem?_getD] at h2
    refine sr fun _ => ?_
    refine ma ?_
    refine mz ?_
    refine AWP.ret (thenA_r ?_)
    refine ρf (rs := [.tmp 4, .tmp 5]) (.cons (.tmp rfl) (.cons (.tmp rfl) .nil)) ?_
    rw [show noteP l s = ([], 41) from by unfold noteP; rw [if_pos h0, if_pos (by rw [may_of_ask h0]; simp; omega), if_pos h2]]; rfl
  try simp [-List.getD_eq_getElem?_getD] at h2
  refine AWP.skip (thenA_n ?_)
  refine sr fun _ => ?_
  refine ARun.nilOwn (e := 60) (z := 3) (j := 1) hG rfl ⟨.inl rfl, rfl⟩ (fun _ => rfl) rfl rfl rfl optN ?_
  refine ez ?_
  refine AWP.seq ?_
  refine sr fun _ => ?_
  refine mz ?_
  refine AWP.block ?_
  refine AWP.rounds (fun x => x.1 ≤ l.length ∧ x.2.2 = (l.take x.1).filter (fun x => decide (x.client < s.client)) ∧ x.2.2.length ≤ x.1) (fun x => [(0, .sl (l.map aSe)), (3, .box (G.length + 0) 0), (9, .own (G.length + 1) x.2.1), (10, .int .i64 (x.1 : Int))]) (fun x => [.box [.int .i64 s.client, .int .i64 s.seq, .str s.reply], .row x.2.1 60 3 (x.2.2.map aSe)]) (fun x => l.length - x.1) 2 ((0, 0, []) : Nat × Nat × List Se) ⟨by omega, rfl, by simp⟩ (by repeat (first | exact .nil | refine .cons rfl ?_)) rfl (fun _ => rfl) (fun _ => (by simp [AO.conts, AV.cells, aSe]; rintro x a _ (rfl | rfl | rfl) <;> simp)) (fun x hI => ?_)
  obtain ⟨kk, gg, acc⟩ := x
  dsimp only at hI
  show AWP _ _ _ _ _ [(0, .sl (l.map aSe)), (3, .box (G.length + 0) 0), (9, .own (G.length + 1) gg), (10, .int .i64 (kk : Int))] _ [.box [.int .i64 s.client, .int .i64 s.seq, .str s.reply], .row gg 60 3 (acc.map aSe)]
  obtain ⟨hk, hacc, hlen⟩ := hI
  refine AWP.seq ?_
  refine sr fun _ => ?_
  refine mv ?_
  refine mv ?_
  refine ρv U37 ?_
  refine ρ2 ?_
  refine ez ?_
  refine ρp (fun h3 => ?_) (fun h3 => ?_)
  · try simp [-List.getD_eq_getElem?_getD] at h3
    refine AWP.skip (thenA_n ?_)
    refine AWP.seq (AWP.block (AWP.seq ?_))
    refine AWP.draw mixed (by kernel_rfl) (fun _ => ?_)
    refine mv ?_
    refine mv ?_
    first | refine ρe U37 sz60 ?_ | refine ρ7 U37 sz60 ?_
    refine ρ5 U60 sz3 ?_
    refine ρa U3 ?_
    refine ρ4 (fo := 0) U60 sz3 ?_
    refine ρd U3 ?_
    refine ρ2 ?_
    refine ⟨by kernel_rfl, _, _, rfl, hG, ?_⟩
    refine thenA_n ?_
    refine ρp (fun h4 => ?_) (fun h4 => ?_)
    · try simp [-List.getD_eq_getElem?_getD] at h4
      refine AWP.region (fun _ => ?_)
      refine mv ?_
      refine mv ?_
      refine mv ?_
      first | refine ρe U37 sz60 ?_ | refine ρ7 U37 sz60 ?_
      refine ρq U60 sz60 ?_
      refine ρA U37 sz60 zv60 ?_
      refine ARun.appendL hG rfl rfl rfl rfl U37 ti60 rfl (by decide) (ep rfl) (ep rfl) rfl rfl (by simp [maxLen]; omega) (by simp; omega) (map_snoc aSe acc (l.getD kk default)) optN rfl ?_
      refine ma ?_
      refine ⟨_, _, rfl, hG, ?_⟩
      refine blockA_n (thenA_n ?_)
      refine AWP.region (fun _ => ?_)
      refine mv ?_
      first | refine ρb ?_ | refine ρl ?_
      refine ma ?_
      refine ⟨_, _, rfl, hG, ?_⟩
      refine thenA_n ⟨rfl, (kk + 1, gg + 1, acc ++ [l.getD kk default]), _, ?_, ?_, rfl, ?_⟩
      · refine ⟨by dsimp only; omega, ?_, by simp; omega⟩
        dsimp only; rw [hacc]; exact flt_yes h3 (by simpa using h4)
      · repeat (first | exact .nil | refine .cons rfl ?_)
      dsimp only; omega
    try simp [-List.getD_eq_getElem?_getD] at h4
    refine AWP.skip (blockA_n (thenA_n ?_))
    refine AWP.region (fun _ => ?_)
    refine mv ?_
    first | refine ρb ?_ | refine ρl ?_
    refine ma ?_
    refine ⟨_, _, rfl, hG, ?_⟩
    refine thenA_n ⟨rfl, (kk + 1, gg, acc), _, ?_, ?_, rfl, ?_⟩
    · refine ⟨by dsimp only; omega, ?_, by dsimp only; omega⟩
      dsimp only; rw [hacc]; exact flt_no h3 (by simpa using h4)
    · repeat (first | exact .nil | refine .cons rfl ?_)
    dsimp only; omega
  try simp [-List.getD_eq_getElem?_getD] at h3
  refine AWP.exit ?_
  refine thenA_x ?_
  refine thenA_x ?_
  refine blockA_h ?_
  refine thenA_n ?_
  refine sr fun _ => ?_
  refine mv ?_
  refine ρi U60 sz60 ?_
  refine ρA U37 sz60 zv60 ?_
  refine ARun.appendL hG rfl rfl rfl rfl U37 ti60 rfl (by decide) (ep rfl) (ep rfl) rfl rfl (by simp [maxLen]; omega) (by simp; omega) (map_snoc aSe acc s) optN rfl ?_
  refine mz ?_
  refine AWP.seq ?_
  refine sr fun _ => ?_
  refine mz ?_
  refine AWP.block ?_
  refine AWP.rounds (fun x => x.1 ≤ l.length ∧ x.2.2 = l.filter (fun x => decide (x.client < s.client)) ++ [s] ++ (l.take x.1).filter (fun x => decide (s.client < x.client)) ∧ x.2.2.length ≤ l.length + 1 + x.1) (fun x => [(0, .sl (l.map aSe)), (3, .box (G.length + 0) 0), (9, .own (G.length + 1) x.2.1), (11, .int .i64 (x.1 : Int))]) (fun x => [.box [.int .i64 s.client, .int .i64 s.seq, .str s.reply], .row x.2.1 60 3 (x.2.2.map aSe)]) (fun x => l.length - x.1) 2 ((0, gg + 1, acc ++ [s]) : Nat × Nat × List Se) ⟨by dsimp only; omega, by dsimp only; rw [hacc, List.take_of_length_le h3]; simp, by simp; omega⟩ (by repeat (first | exact .nil | refine .cons rfl ?_)) rfl (fun _ => rfl) (fun _ => (by simp [AO.conts, AV.cells, aSe]; rintro x a _ (rfl | rfl | rfl) <;> simp)) (fun x hI => ?_)
  obtain ⟨kk, gg, acc⟩ := x
  dsimp only at hI
  show AWP _ _ _ _ _ [(0, .sl (l.map aSe)), (3, .box (G.length + 0) 0), (9, .own (G.length + 1) gg), (11, .int .i64 (kk : Int))] _ [.box [.int .i64 s.client, .int .i64 s.seq, .str s.reply], .row gg 60 3 (acc.map aSe)]
  obtain ⟨hk, hacc, hlen⟩ := hI
  refine AWP.seq ?_
  refine sr fun _ => ?_
  refine mv ?_
  refine mv ?_
  refine ρv U37 ?_
  refine ρ2 ?_
  refine ez ?_
  refine ρp (fun h5 => ?_) (fun h5 => ?_)
  · try simp [-List.getD_eq_getElem?_getD] at h5
    refine AWP.skip (thenA_n ?_)
    refine AWP.seq (AWP.block (AWP.seq ?_))
    refine AWP.draw mixed (by kernel_rfl) (fun _ => ?_)
    refine mv ?_
    refine mv ?_
    first | refine ρe U37 sz60 ?_ | refine ρ7 U37 sz60 ?_
    refine ρ5 U60 sz3 ?_
    refine ρa U3 ?_
    refine ρ4 (fo := 0) U60 sz3 ?_
    refine ρd U3 ?_
    refine ρ2 ?_
    refine ⟨by kernel_rfl, _, _, rfl, hG, ?_⟩
    refine thenA_n ?_
    refine ρp (fun h6 => ?_) (fun h6 => ?_)
    · try simp [-List.getD_eq_getElem?_getD] at h6
      refine AWP.region (fun _ => ?_)
      refine mv ?_
      refine mv ?_
      refine mv ?_
      first | refine ρe U37 sz60 ?_ | refine ρ7 U37 sz60 ?_
      refine ρq U60 sz60 ?_
      refine ρA U37 sz60 zv60 ?_
      refine ARun.appendL hG rfl rfl rfl rfl U37 ti60 rfl (by decide) (ep rfl) (ep rfl) rfl rfl (by simp [maxLen]; omega) (by simp; omega) (map_snoc aSe acc (l.getD kk default)) optN rfl ?_
      refine ma ?_
      refine ⟨_, _, rfl, hG, ?_⟩
      refine blockA_n (thenA_n ?_)
      refine AWP.region (fun _ => ?_)
      refine mv ?_
      first | refine ρb ?_ | refine ρl ?_
      refine ma ?_
      refine ⟨_, _, rfl, hG, ?_⟩
      refine thenA_n ⟨rfl, (kk + 1, gg + 1, acc ++ [l.getD kk default]), _, ?_, ?_, rfl, ?_⟩
      · refine ⟨by dsimp only; omega, ?_, by simp; omega⟩
        dsimp only; rw [hacc, List.append_assoc]; congr 1; exact flt_yes h5 (by simpa using h6)
      · repeat (first | exact .nil | refine .cons rfl ?_)
      dsimp only; omega
    try simp [-List.getD_eq_getElem?_getD] at h6
    refine AWP.skip (blockA_n (thenA_n ?_))
    refine AWP.region (fun _ => ?_)
    refine mv ?_
    first | refine ρb ?_ | refine ρl ?_
    refine ma ?_
    refine ⟨_, _, rfl, hG, ?_⟩
    refine thenA_n ⟨rfl, (kk + 1, gg, acc), _, ?_, ?_, rfl, ?_⟩
    · refine ⟨by dsimp only; omega, ?_, by dsimp only; omega⟩
      dsimp only; rw [hacc]; congr 1; exact flt_no h5 (by simpa using h6)
    · repeat (first | exact .nil | refine .cons rfl ?_)
    dsimp only; omega
  try simp [-List.getD_eq_getElem?_getD] at h5
  refine AWP.exit ?_
  refine thenA_x ?_
  refine thenA_x ?_
  refine blockA_h ?_
  refine thenA_n ?_
  refine sr fun _ => ?_
  refine mv ?_
  refine ma ?_
  refine mz ?_
  refine AWP.frzOwn 4 hG rfl rfl (by decide) (by simp [maxLen]; omega) rfl ?_
  refine AWP.ret ?_
  refine ρf (rs := [.tmp 4, .tmp 5]) (.cons (.tmp rfl) (.cons (.tmp rfl) .nil)) ?_
  rw [show noteP l s = (putP l s, 0) from by unfold noteP; rw [if_pos h0, if_pos (by rw [may_of_ask h0]; simp; omega), if_neg (by simp [h2])], put_filter h0, hacc, List.take_of_length_le h5]; rfl
def fewB (l : List Se) : Bool := decide (l.length ≤ 60) && l.all fun x => decide (x.reply.size ≤ 1000)
theorem few_bad {l : List Se} {k : Nat} (hk : k < l.length) (h : 1000 < (l.getD k default).reply.size) : fewB l = false := by
  unfold fewB
  rw [Bool.and_eq_false_iff]; right
  rw [List.all_eq_false]
  exact ⟨l[k], List.getElem_mem hk, by rw [Se_idx hk] at h; simp; omega⟩
theorem few_good {l : List Se} (h : l.length ≤ 60) (h2 : ∀ j, j < l.length → (l.getD j default).reply.size ≤ 1000) : fewB l = true := by
  unfold fewB
  rw [decide_eq_true h, Bool.true_and, List.all_eq_true]
  intro x hx
  obtain ⟨j, hj, rfl⟩ := List.mem_iff_getElem.1 hx
  have := h2 j hj
  rw [Se_idx hj] at this
  exact decide_eq_true this
set_option maxHeartbeats 1000000 in
theorem few_fn (l : List Se) : FnP Tryz.prog 42 [.sl (l.map aSe)] (.bool (fewB l)) := by
  refine FnP.of Tryz.func42 rfl rfl (by simp) (by simp [AV.cells, aSe]) (fun G hG => ?_)
  have hN : NoH G.length (.bool (fewB l)) := (by simp [AV.cells, aSe])
  refine sr fun _ => ?_
  refine mz ?_
  refine AWP.seq ?_
  refine sr fun _ => ?_
  refine mv ?_
  refine ρv U37 ?_
  refine ρ2 ?_
  refine ez ?_
  refine ρp (fun h0 => ?_) (fun h0 => ?_)
  · simp [-List.getD_eq_getElem?_getD] at h0
    refine sr fun _ => ?_
    refine mz ?_
    refine AWP.ret (thenA_r ?_)
    refine ρh ?_
    rw [show fewB l = false from by unfold fewB; rw [decide_eq_false (by omega)]; rfl]; rfl
  simp [-List.getD_eq_getElem?_getD] at h0
  refine AWP.skip (thenA_n (AWP.seq ?_))
  refine sr fun _ => ?_
  refine mz ?_
  refine AWP.block ?_
  refine AWP.rounds (fun k => k ≤ l.length ∧ ∀ j, j < k → (l.getD j default).reply.size ≤ 1000) (fun k => [(0, .sl (l.map aSe)), (3, .int .i64 (k : Int))]) (fun k => []) (fun k => l.length - k) 0 0 ⟨by omega, fun j h => by omega⟩ (by repeat (first | exact .nil | refine .cons rfl ?_)) rfl (fun _ => rfl) (fun _ => (by simp [AO.conts, AV.cells, aSe])) (fun k hI => ?_)
  obtain ⟨hk, hno⟩ := hI
  refine AWP.seq ?_
  refine sr fun _ => ?_
  refine mv ?_
  refine mv ?_
  refine ρv U37 ?_
  refine ρ2 ?_
  refine ez ?_
  refine ρp (fun h1 => ?_) (fun h1 => ?_)
  · simp [-List.getD_eq_getElem?_getD] at h1
    refine AWP.skip (thenA_n ?_)
    refine AWP.seq (AWP.block ?_)
    refine sr fun _ => ?_
    refine mv ?_
    refine mv ?_
    first | refine ρe U37 sz60 ?_ | refine ρ7 U37 sz60 ?_
    refine ρ5 U60 sz9 ?_
    refine ρa U9 ?_
    refine ARun.lenStr rfl rfl rfl rfl U9 (ep rfl) optN ?_
    refine ρ2 ?_
    refine ez ?_
    refine ρp (fun h2 => ?_) (fun h2 => ?_)
    · simp [-List.getD_eq_getElem?_getD] at h2
      refine sr fun _ => ?_
      refine mz ?_
      refine AWP.ret (blockA_r ?_)
      refine thenA_r (thenA_r ?_)
      refine blockA_r (thenA_r ?_)
      refine ρh ?_
      rw [few_bad h1 (by omega)]; rfl
    simp [-List.getD_eq_getElem?_getD] at h2
    refine AWP.skip (blockA_n (thenA_n ?_))
    refine AWP.region (fun _ => ?_)
    refine mv ?_
    first | refine ρb ?_ | refine ρl ?_
    refine ma ?_
    refine ⟨_, _, rfl, hG, ?_⟩
    refine thenA_n ⟨rfl, k + 1, _, ?_, ?_, rfl, ?_⟩
    · refine ⟨by omega, fun j hj => ?_⟩
      by_cases e : j = k
      · subst e; omega
      exact hno j (by omega)
    · repeat (first | exact .nil | refine .cons rfl ?_)
    omega
  simp [-List.getD_eq_getElem?_getD] at h1
  refine AWP.exit ?_
  refine thenA_x ?_
  refine thenA_x ?_
  refine blockA_h ?_
  refine thenA_n ?_
  refine sr fun _ => ?_
  refine mz ?_
  refine AWP.ret ?_
  refine ρh ?_
  rw [few_good (by omega) (fun j hj => hno j (by omega))]; rfl
end Go.Proofs.YtgebpndhnkkbgaaGreatDoor.Ssn
namespace Go.Proofs.YtgebpndhnkkbgaaGreatDoor.Ssn
set_option linter.unusedVariables false
set_option linter.unusedSimpArgs false
open SessP
theorem note_good {l : List Se} {s : Se} (h : (noteP l s).2 = 0) : (askP l s.client s.seq).2.2 = 0 ∧ may s = true ∧ (askP l s.client s.seq).2.1 = false ∧ (noteP l s).1 = putR l s := by
  unfold noteP at h ⊢
  by_cases h1 : (askP l s.client s.seq).2.2 = 0
  · rw [if_pos h1] at h ⊢
    by_cases h2 : may s = true
    · rw [if_pos h2] at h ⊢
      by_cases h3 : (askP l s.client s.seq).2.1 = true
      · rw [if_pos h3] at h; cases h
      · rw [if_neg h3]
        exact ⟨h1, h2, by simpa using h3, putP_eq l s 0 (asc_of_ok l 0 (okE_ok (askP_ok h1).1).2)⟩
    · rw [if_neg h2] at h; cases h
  · rw [if_neg h1] at h; exact absurd h h1
theorem ask_room {l : List Se} {c q : Int} (h : (askP l c q).2.2 = 0) (hf : (findP l c).2 = false) : l.length < 20 := by
  have h1 := askP_ok h
  unfold askP at h
  rw [if_pos h1, if_neg (by simp [hf])] at h
  split at h
  · cases h
  · omega
theorem note_ok {l : List Se} {s : Se} (h : (noteP l s).2 = 0) : okE (noteP l s).1 = 0 := by
  obtain ⟨h1, h2, h3, h4⟩ := note_good h
  obtain ⟨hl, ho⟩ := okE_ok (askP_ok h1).1
  have ha := (okFrom_iff l 0).1 ho
  have hlen := putR_len l s 0 ha.2
  rw [h4]
  refine okE_good ?_ ((okFrom_iff _ _).2 ⟨fun x hx => ?_, putR_asc l s 0 ha.2 (may_pos h2)⟩)
  · cases hf : (findP l s.client).2 with
    | true => rw [hlen.2 hf]; exact hl
    | false => have := ask_room h1 hf; omega
  · rcases putR_mem l s x hx with rfl | hx
    · exact h2
    · exact ha.1 x hx
end Go.Proofs.YtgebpndhnkkbgaaGreatDoor.Ssn
namespace Go.Proofs.YtgebpndhnkkbgaaGreatDoor.StockP
set_option linter.unusedVariables false
set_option linter.unusedSimpArgs false
def okLFrom : Int → List Ln → Bool
  | _, [] => true
  | p, x :: l => decide (p < x.item ∧ x.item ≤ 99999 ∧ 1 ≤ x.qty ∧ x.qty ≤ 1000000) && okLFrom x.item l
def okL (l : List Ln) : Bool := decide (1 ≤ l.length ∧ l.length ≤ 5) && okLFrom 0 l
def okLE (l : List Ln) : Int := if okL l = true then 0 else 2
def lastL : Int → List Ln → Int
  | p, [] => p
  | _, x :: l => lastL x.item l
theorem okLFrom_snoc (l : List Ln) (x : Ln) : ∀ p, okLFrom p (l ++ [x]) = (okLFrom p l && decide (lastL p l < x.item ∧ x.item ≤ 99999 ∧ 1 ≤ x.qty ∧ x.qty ≤ 1000000)) := by
  induction l with
  | nil => intro p; simp only [List.nil_append, okLFrom, lastL, Bool.and_true, Bool.true_and]; rfl
  | cons y l ih => intro p; simp only [List.cons_append, okLFrom, ih, lastL, Bool.and_assoc]; rfl
theorem okLFrom_prefix (l m : List Ln) : ∀ p, okLFrom p (l ++ m) = true → okLFrom p l = true := by
  induction l with
  | nil => intro p _; rfl
  | cons y l ih =>
    intro p h
    simp only [List.cons_append, okLFrom, Bool.and_eq_true] at h ⊢
    exact ⟨h.1, ih _ h.2⟩
theorem lastL_snoc (l : List Ln) (x : Ln) : ∀ p, lastL p (l ++ [x]) = x.item := by
  induction l with
  | nil => intro p; rfl
  | cons y l ih => intro p; exact ih y.item
theorem okLFrom_cut {xs : List Ln} {k : Nat} (h : okLFrom 0 (xs.take k) = false) : okLFrom 0 xs = false := by
  cases h2 : okLFrom 0 xs with
  | false => rfl
  | true =>
    rw [← List.take_append_drop k xs] at h2
    rw [okLFrom_prefix _ _ _ h2] at h
    exact absurd h (by decide)
theorem okLFrom_mem {l : List Ln} : ∀ {p : Int}, okLFrom p l = true → ∀ x, x ∈ l → p < x.item ∧ x.item ≤ 99999 ∧ 1 ≤ x.qty ∧ x.qty ≤ 1000000 := by
  induction l with
  | nil => intro p _ x hx; cases hx
  | cons y l ih =>
    intro p h x hx
    simp only [okLFrom, Bool.and_eq_true, decide_eq_true_eq] at h
    cases hx with
    | head => exact h.1
    | tail _ hx => have := ih h.2 x hx; omega
def goesP (f : List It → Int → Int → List It × Int) : Int → List It → List Ln → List It × Int × Int
  | i, items, [] => (items, i, 0)
  | i, items, x :: l => if (f items x.item x.qty).2 ≠ 0 then ([], i, (f items x.item x.qty).2) else goesP f (i + 1) (f items x.item x.qty).1 l
theorem goesP_cons (f : List It → Int → Int → List It × Int) (i : Int) (items : List It) (x : Ln) (l : List Ln) : goesP f i items (x :: l) = if (f items x.item x.qty).2 ≠ 0 then ([], i, (f items x.item x.qty).2) else goesP f (i + 1) (f items x.item x.qty).1 l := rfl
def allP (f : List It → Int → Int → List It × Int) (items : List It) (l : List Ln) : List It × Int × Int :=
  if ok items = true ∧ okL l = true then goesP f 0 items l else ([], 0, 2)
def sumF : List Ln → Int
  | [] => 0
  | x :: l => x.qty + sumF l
theorem sumF_snoc (l : List Ln) (x : Ln) : sumF (l ++ [x]) = sumF l + x.qty := by
  induction l with
  | nil => simp [sumF]
  | cons y l ih => simp only [List.cons_append, sumF, ih]; omega
def totalP (l : List Ln) : Int := if okL l = true then sumF l else 0
end Go.Proofs.YtgebpndhnkkbgaaGreatDoor.StockP
namespace Go.Proofs.YtgebpndhnkkbgaaGreatDoor.StockP
set_option linter.unusedVariables false
set_option linter.unusedSimpArgs false
def can (ys : List It) (l : Ln) : Prop := (findT ys l.item).2 = true ∧ l.qty ≤ (findT ys l.item).1.free
def canF (ys : List It) (l : Ln) : Prop := (findT ys l.item).2 = true ∧ l.qty ≤ (findT ys l.item).1.held
instance (ys : List It) (l : Ln) : Decidable (can ys l) := by unfold can; infer_instance
instance (ys : List It) (l : Ln) : Decidable (canF ys l) := by unfold canF; infer_instance
end Go.Proofs.YtgebpndhnkkbgaaGreatDoor.StockP
namespace Go.Proofs.YtgebpndhnkkbgaaGreatDoor.StockP
set_option linter.unusedVariables false
set_option linter.unusedSimpArgs false
abbrev holdF (ys : List It) (i q : Int) : List It × Int := withP (holdG q) ys i q
end Go.Proofs.YtgebpndhnkkbgaaGreatDoor.StockP
namespace Go.Proofs.YtgebpndhnkkbgaaGreatDoor.Stk
set_option linter.unusedVariables false
set_option linter.unusedSimpArgs false
open Go.RowKit
open StockP
set_option maxRecDepth 100000
set_option maxHeartbeats 1000000 in
theorem checkR_fn (l : List It) : FnP Tryz.prog 30 [.sl (l.map aIt)] (.int .i64 (okE l)) := by
  refine FnP.of Tryz.func30 rfl rfl (by simp) (by simp [AV.cells, aIt]) (fun G hG => ?_)
  have hN : NoH G.length (.int .i64 (okE l)) := (by simp [AV.cells, aIt])
  refine sr fun _ => ?_
  refine mz ?_
  refine AWP.seq ?_
  refine sr fun _ => ?_
  refine mv ?_
  refine ρv U22 ?_
  refine ρ2 ?_
  refine ez ?_
  refine ρp (fun h0 => ?_) (fun h0 => ?_)
  · try simp [-List.getD_eq_getElem?_getD] at h0
    refine sr fun _ => ?_
    refine mz ?_
    refine AWP.ret (thenA_r ?_)
    refine ρh ?_
    rw [okE_big (by omega)]; rfl
  try simp [-List.getD_eq_getElem?_getD] at h0
  refine AWP.skip (thenA_n (AWP.seq ?_))
  refine sr fun _ => ?_
  refine mz ?_
  refine AWP.block ?_
  refine AWP.rounds (fun k => k ≤ l.length ∧ okFrom 0 (l.take k) = true) (fun k => [(0, .sl (l.map aIt)), (3, .int .i64 (k : Int))]) (fun k => []) (fun k => l.length - k) 0 0 ⟨by omega, rfl⟩ (by repeat (first | exact .nil | refine .cons rfl ?_)) rfl (fun _ => rfl) (fun _ => (by simp [AO.conts, AV.cells, aIt])) (fun k hI => ?_)
  obtain ⟨hk, hok⟩ := hI
  have hmy := may_iff (x := l.getD k default)
  refine AWP.seq ?_
  refine sr fun _ => ?_
  refine mv ?_
  refine mv ?_
  refine ρv U22 ?_
  refine ρ2 ?_
  refine ez ?_
  refine ρp (fun h1 => ?_) (fun h1 => ?_)
  · try simp [-List.getD_eq_getElem?_getD] at h1
    refine AWP.skip (thenA_n ?_)
    refine AWP.seq (AWP.block ?_)
    refine sr fun _ => ?_
    refine mv ?_
    refine mv ?_
    first | refine ARun.indexSl rfl rfl rfl rfl U22 sz64 (ep rfl) (ep rfl) (fun _ => rfl) (fun hg => getMap _ _ _ (by (try simp [-List.getD_eq_getElem?_getD] at hg); omega)) rfl rfl optN ?_ | refine ARun.indexSl rfl rfl rfl rfl U22 sz64 (ep rfl) (ep rfl) (fun hg => ofNonneg (by (try simp [-List.getD_eq_getElem?_getD] at hg); omega)) (fun hg => getMap _ _ _ (by (try simp [-List.getD_eq_getElem?_getD] at hg); omega)) rfl rfl optN ?_
    refine ρq U64 sz64 ?_
    refine ρo (j := 0) zv64 ?_
    refine ρ1 sz64 ?_
    refine ez ?_
    refine AWP.seq ?_
    refine AWP.draw mixed (by kernel_rfl) (fun _ => ?_)
    refine ρ4 (fo := 0) U64 sz3 ?_
    refine ρd U3 ?_
    refine ρ2 ?_
    refine mv ?_
    refine ρt (fo := 0) U64 sz3 ?_
    refine ρr U3 ?_
    refine ρ9 ?_
    refine ρ3 ?_
    refine mv ?_
    refine ρt (fo := 1) U64 sz3 ?_
    refine ρr U3 ?_
    refine ρ9 ?_
    refine ρ3 ?_
    refine mv ?_
    refine ρt (fo := 2) U64 sz3 ?_
    refine ρr U3 ?_
    refine ρ9 ?_
    refine ρ3 ?_
    refine mv ?_
    refine ρt (fo := 3) U64 sz3 ?_
    refine ρr U3 ?_
    refine ρ9 ?_
    refine ρ3 ?_
    refine mv ?_
    refine ρt (fo := 1) U64 sz3 ?_
    refine ρr U3 ?_
    refine ρ9 ?_
    refine ρ3 ?_
    refine mv ?_
    refine ρt (fo := 2) U64 sz3 ?_
    refine ρr U3 ?_
    refine ρt (fo := 1) U64 sz3 ?_
    refine ρr U3 ?_
    first | refine ARun.arith rfl rfl rfl rfl (ep rfl) (Ev.opt rfl (fun h => h)) rfl (fun hg => i64w (by (try simp [-List.getD_eq_getElem?_getD] at hg); omega)) optS ?_ | refine ARun.arith rfl rfl rfl rfl (ep rfl) (Ev.opt rfl (fun h => h)) rfl (fun _ => rfl) optS ?_
    refine ρu ?_
    refine ρ3 ?_
    refine mv ?_
    refine ρt (fo := 3) U64 sz3 ?_
    refine ρr U3 ?_
    refine ρt (fo := 1) U64 sz3 ?_
    refine ρr U3 ?_
    first | refine ARun.arith rfl rfl rfl rfl (ep rfl) (Ev.opt rfl (fun h => h)) rfl (fun hg => i64w (by (try simp [-List.getD_eq_getElem?_getD] at hg); omega)) optS ?_ | refine ARun.arith rfl rfl rfl rfl (ep rfl) (Ev.opt rfl (fun h => h)) rfl (fun _ => rfl) optS ?_
    refine ρt (fo := 2) U64 sz3 ?_
    refine ρr U3 ?_
    first | refine ARun.arith rfl rfl rfl rfl (Ev.opt rfl (fun h => h)) (Ev.opt rfl (fun h => h)) rfl (fun hg => i64w (by (try simp [-List.getD_eq_getElem?_getD] at hg); omega)) optS ?_ | refine ARun.arith rfl rfl rfl rfl (Ev.opt rfl (fun h => h)) (Ev.opt rfl (fun h => h)) rfl (fun _ => rfl) optS ?_
    refine ρu ?_
    refine ρ3 ?_
    refine mv ?_
    refine ρk ?_
    refine ρ9 ?_
    refine ARun.move (.inl rfl) rfl rfl rfl (Ev.opt rfl (fun h => h)) optS ?_
    refine ρk ?_
    refine ρk ?_
    first | refine ARun.arith rfl rfl rfl rfl (Ev.opt rfl (fun h => h)) (ep rfl) rfl (fun hg => i64w (by (try simp [-List.getD_eq_getElem?_getD] at hg); omega)) optS ?_ | refine ARun.arith rfl rfl rfl rfl (Ev.opt rfl (fun h => h)) (ep rfl) rfl (fun _ => rfl) optS ?_
    first | refine ARun.indexSl rfl rfl rfl rfl U22 sz64 (Ev.opt rfl (fun h => h)) (Ev.opt rfl (fun h => h)) (fun _ => rfl) (fun hg => getMap _ _ _ (by (try simp [-List.getD_eq_getElem?_getD] at hg); omega)) rfl rfl optS ?_ | refine ARun.indexSl rfl rfl rfl rfl U22 sz64 (Ev.opt rfl (fun h => h)) (Ev.opt rfl (fun h => h)) (fun hg => ofNonneg (by (try simp [-List.getD_eq_getElem?_getD] at hg); omega)) (fun hg => getMap _ _ _ (by (try simp [-List.getD_eq_getElem?_getD] at hg); omega)) rfl rfl optS ?_
    refine ρB U64 sz3 ?_
    refine ρ8 U3 ?_
    refine ρt (fo := 0) U64 sz3 ?_
    refine ρr U3 ?_
    refine ρu ?_
    refine ARun.pick rfl rfl rfl rfl (Ev.opt rfl (fun h => h)) (Ev.opt rfl (by first | exact pkT | exact pkT2 | simp +contextual)) (ep rfl) (andB _ _) optS ?_
    refine ρ3 ?_
    refine ⟨by kernel_rfl, _, _, rfl, hG, ?_⟩
    refine thenA_n ?_
    refine ρp (fun h2 => ?_) (fun h2 => ?_)
    · try simp [-List.getD_eq_getElem?_getD] at h2
      refine sr fun _ => ?_
      refine mz ?_
      refine AWP.ret (blockA_r ?_)
      refine thenA_r (thenA_r ?_)
      refine blockA_r (thenA_r ?_)
      refine ρh ?_
      rw [chk_bad h1 (by
        cases hm : may (l.getD k default) with
        | false => exact .inl rfl
        | true => rw [hm] at hmy; have := hmy.1 rfl; right; omega)]; rfl
    try simp [-List.getD_eq_getElem?_getD] at h2
    refine AWP.skip (blockA_n (thenA_n ?_))
    refine AWP.region (fun _ => ?_)
    refine mv ?_
    first | refine ARun.arith rfl rfl rfl rfl (ep rfl) (ep rfl) rfl (fun hg => i64w (by (try simp [-List.getD_eq_getElem?_getD] at hg); omega)) optN ?_ | refine ρl ?_
    refine ma ?_
    refine ⟨_, _, rfl, hG, ?_⟩
    refine thenA_n ⟨rfl, k + 1, _, ?_, ?_, rfl, ?_⟩
    · exact ⟨by omega, chk_go h1 hok ⟨hmy.2 (by omega), fun hk0 => by omega⟩⟩
    · repeat (first | exact .nil | refine .cons rfl ?_)
    omega
  try simp [-List.getD_eq_getElem?_getD] at h1
  refine AWP.exit ?_
  refine thenA_x ?_
  refine thenA_x ?_
  refine blockA_h ?_
  refine thenA_n ?_
  refine sr fun _ => ?_
  refine mz ?_
  refine AWP.ret ?_
  refine ρh ?_
  rw [okE_good (by omega) (by rw [← List.take_of_length_le h1]; exact hok)]; rfl
set_option maxHeartbeats 1000000 in
theorem findR_fn (l : List It) (id : Int) (hl : l.length ≤ 9223372036854775807) : FnP Tryz.prog 37 [.sl (l.map aIt), .int .i64 id] (.tup [aIt (findT l id).1, .bool (findT l id).2]) := by
  refine FnP.of Tryz.func37 rfl rfl (by simp) (by simp [AV.cells, aIt]) (fun G hG => ?_)
  have hN : NoH G.length (.tup [aIt (findT l id).1, .bool (findT l id).2]) := (by simp [AV.cells, aIt])
  refine sr fun _ => ?_
  refine ρo (j := 0) zv64 ?_
  refine mz ?_
  refine AWP.seq ?_
  refine sr fun _ => ?_
  refine mz ?_
  refine AWP.block ?_
  refine AWP.rounds (fun k => k ≤ l.length ∧ ∀ j, j < k → ((l.getD j default).id == id) = false) (fun k => [(0, .sl (l.map aIt)), (1, .int .i64 id), (4, .box (G.length + 0) 0), (5, .bool false), (6, .int .i64 (k : Int))]) (fun k => [.box [.int .i64 0, .int .i64 0, .int .i64 0, .int .i64 0]]) (fun k => l.length - k) 1 0 ⟨by omega, fun j h => by omega⟩ (by repeat (first | exact .nil | refine .cons rfl ?_)) rfl (fun _ => rfl) (fun _ => (by simp [AO.conts, AV.cells, aIt])) (fun k hI => ?_)
  obtain ⟨hk, hno⟩ := hI
  refine AWP.seq ?_
  refine sr fun _ => ?_
  refine mv ?_
  refine mv ?_
  refine ρv U22 ?_
  refine ρ2 ?_
  refine ez ?_
  refine ρp (fun h0 => ?_) (fun h0 => ?_)
  · try simp [-List.getD_eq_getElem?_getD] at h0
    refine AWP.skip (thenA_n ?_)
    refine AWP.seq (AWP.block ?_)
    refine sr fun _ => ?_
    refine mv ?_
    refine mv ?_
    first | refine ρe U22 sz64 ?_ | refine ρ7 U22 sz64 ?_
    refine ρ5 U64 sz3 ?_
    refine ρa U3 ?_
    refine mv ?_
    refine ρ2 ?_
    refine ez ?_
    refine ρp (fun h1 => ?_) (fun h1 => ?_)
    · try simp [-List.getD_eq_getElem?_getD] at h1
      refine sr fun _ => ?_
      refine mv ?_
      refine mv ?_
      first | refine ρe U22 sz64 ?_ | refine ρ7 U22 sz64 ?_
      refine ρq U64 sz64 ?_
      refine ρ1 sz64 ?_
      refine mz ?_
      refine AWP.ret (blockA_r ?_)
      refine thenA_r (thenA_r ?_)
      refine blockA_r (thenA_r ?_)
      refine ρf (rs := [.cell 4 64, .tmp 5]) (.cons (.cellA rfl ((hG.at _ _).trans rfl) U64 rfl sz64 rfl rfl) (.cons (.tmp rfl) .nil)) ?_
      have hi := (idxOf_idx (fun x : It => x.id == id) l).symm.trans (idx_hit (p := fun x : It => x.id == id) h0 hno (by simp [-List.getD_eq_getElem?_getD]; omega))
      rw [find_yes (by omega), hi, Int.toNat_natCast]; rfl
    try simp [-List.getD_eq_getElem?_getD] at h1
    refine AWP.skip (blockA_n (thenA_n ?_))
    refine AWP.region (fun _ => ?_)
    refine mv ?_
    first | refine ρb ?_ | refine ρl ?_
    refine ma ?_
    refine ⟨_, _, rfl, hG, ?_⟩
    refine thenA_n ⟨rfl, k + 1, _, ?_, ?_, rfl, ?_⟩
    · refine ⟨by omega, fun j hj => ?_⟩
      by_cases e : j = k
      · subst e; simp [-List.getD_eq_getElem?_getD]; omega
      exact hno j (by omega)
    · repeat (first | exact .nil | refine .cons rfl ?_)
    omega
  try simp [-List.getD_eq_getElem?_getD] at h0
  refine AWP.exit ?_
  refine thenA_x ?_
  refine thenA_x ?_
  refine blockA_h ?_
  refine thenA_n ?_
  refine sr fun _ => ?_
  refine ARun.build rfl rfl rfl rfl so64 .nil rfl rfl optN ?_
  refine ρ1 sz64 ?_
  refine mz ?_
  refine AWP.ret ?_
  refine ρf (rs := [.cell 4 64, .tmp 5]) (.cons (.cellA rfl ((hG.at _ _).trans rfl) U64 rfl sz64 rfl rfl) (.cons (.tmp rfl) .nil)) ?_
  have hi := (idxOf_idx (fun x : It => x.id == id) l).symm.trans (idx_none (p := fun x : It => x.id == id) (l := l) (fun j hj => hno j (by omega)))
  rw [find_no (by omega)]; rfl
set_option maxHeartbeats 1000000 in
theorem put_fn (l : List It) (x : It) (hl : l.length ≤ 1000) : FnP Tryz.prog 75 [.sl (l.map aIt), aIt x] (.sl ((put l x).map aIt)) := by
  refine FnP.of Tryz.func75 rfl rfl (by simp) (by simp [AV.cells, aIt]) (fun G hG => ?_)
  have hN : NoH G.length (.sl ((put l x).map aIt)) := (by simp [AV.cells, aIt])
  refine sr fun _ => ?_
  refine ARun.box (j := 0) hG rfl rfl rfl rfl rfl (ep rfl) rfl rfl optN ?_
  refine mz ?_
  refine sr fun _ => ?_
  refine ARun.nilOwn (e := 64) (z := 4) (j := 1) hG rfl ⟨.inl rfl, rfl⟩ (fun _ => rfl) rfl rfl rfl optN ?_
  refine ez ?_
  refine AWP.seq ?_
  refine sr fun _ => ?_
  refine mz ?_
  refine AWP.block ?_
  refine AWP.rounds (fun s => s.1 ≤ l.length ∧ s.2 = l.take s.1 ∧ ∀ j, j < s.1 → (l.getD j default).id < x.id) (fun s => [(0, .sl (l.map aIt)), (3, .box (G.length + 0) 0), (5, .own (G.length + 1) s.1), (6, .int .i64 (s.1 : Int))]) (fun s => [.box [.int .i64 x.id, .int .i64 x.free, .int .i64 x.held, .int .i64 x.gone], .row s.1 64 4 (s.2.map aIt)]) (fun s => l.length - s.1) 2 ((0, []) : Nat × List It) ⟨by dsimp only; omega, rfl, fun j h => by dsimp only at h; omega⟩ (by repeat (first | exact .nil | refine .cons rfl ?_)) rfl (fun _ => rfl) (fun _ => (by simp [AO.conts, AV.cells, aIt]; rintro y a _ (rfl | rfl | rfl | rfl) <;> simp)) (fun s hI => ?_)
  obtain ⟨k, acc⟩ := s
  dsimp only at hI
  show AWP _ _ _ _ _ [(0, .sl (l.map aIt)), (3, .box (G.length + 0) 0), (5, .own (G.length + 1) k), (6, .int .i64 (k : Int))] _ [.box [.int .i64 x.id, .int .i64 x.free, .int .i64 x.held, .int .i64 x.gone], .row k 64 4 (acc.map aIt)]
  obtain ⟨hk, hacc0, hno⟩ := hI
  have hl0 : acc.length ≤ 1000 := by rw [hacc0]; simp; omega
  refine AWP.seq (AWP.seq ?_)
  refine AWP.draw mixed (by kernel_rfl) (fun _ => ?_)
  refine mv ?_
  refine mv ?_
  refine ρv U22 ?_
  refine ρ2 ?_
  refine mv ?_
  refine ρk ?_
  refine ρk ?_
  first | refine ρy U22 sz64 ?_ | refine ρw U22 sz64 ?_
  refine ρB U64 sz3 ?_
  refine ρ8 U3 ?_
  refine ρt (fo := 0) U64 sz3 ?_
  refine ρr U3 ?_
  refine ρu ?_
  refine ρ0 ?_
  refine ⟨by kernel_rfl, _, _, rfl, hG, ?_⟩
  refine thenA_n ?_
  refine ρp (fun h0 => ?_) (fun h0 => ?_)
  · try simp [-List.getD_eq_getElem?_getD] at h0
    refine AWP.skip (thenA_n ?_)
    refine AWP.seq (AWP.block ?_)
    refine AWP.region (fun _ => ?_)
    refine mv ?_
    refine mv ?_
    refine mv ?_
    first | refine ρe U22 sz64 ?_ | refine ρ7 U22 sz64 ?_
    refine ρq U64 sz64 ?_
    refine ρA U22 sz64 zv64 ?_
    refine ARun.appendL hG rfl rfl rfl rfl U22 ti64 rfl (by decide) (ep rfl) (ep rfl) rfl rfl (by simp [maxLen]; omega) (by simp; omega) (map_snoc aIt acc (l.getD k default)) optN rfl ?_
    refine ma ?_
    refine ⟨_, _, rfl, hG, ?_⟩
    refine blockA_n (thenA_n ?_)
    refine AWP.region (fun _ => ?_)
    refine mv ?_
    first | refine ρb ?_ | refine ρl ?_
    refine ma ?_
    refine ⟨_, _, rfl, hG, ?_⟩
    refine thenA_n ⟨rfl, (k + 1, acc ++ [l.getD k default]), _, ?_, ?_, rfl, ?_⟩
    · refine ⟨by dsimp only; omega, by dsimp only; rw [hacc0]; exact (take_snoc2 h0.1), fun j hj => ?_⟩
      dsimp only at hj
      by_cases e : j = k
      · subst e; omega
      exact hno j (by omega)
    · repeat (first | exact .nil | refine .cons rfl ?_)
    dsimp only; omega
  try simp [-List.getD_eq_getElem?_getD] at h0
  refine AWP.exit ?_
  refine thenA_x ?_
  refine thenA_x ?_
  refine blockA_h ?_
  refine thenA_n ?_
  refine sr fun _ => ?_
  refine mv ?_
  refine ρi U64 sz64 ?_
  refine ρA U22 sz64 zv64 ?_
  refine ARun.appendL hG rfl rfl rfl rfl U22 ti64 rfl (by decide) (ep rfl) (ep rfl) rfl rfl (by simp [maxLen]; omega) (by simp; omega) (map_snoc aIt acc x) optN rfl ?_
  refine mz ?_
  refine AWP.seq ?_
  refine sr fun _ => ?_
  refine mz ?_
  refine AWP.block ?_
  refine AWP.rounds (fun s => s.1 ≤ l.length ∧ s.2.2 = l.takeWhile (fun y => decide (y.id < x.id)) ++ [x] ++ (l.take s.1).filter (fun y => decide (x.id < y.id)) ∧ s.2.2.length ≤ l.length + 1 + s.1) (fun s => [(0, .sl (l.map aIt)), (3, .box (G.length + 0) 0), (5, .own (G.length + 1) s.2.1), (7, .int .i64 (s.1 : Int))]) (fun s => [.box [.int .i64 x.id, .int .i64 x.free, .int .i64 x.held, .int .i64 x.gone], .row s.2.1 64 4 (s.2.2.map aIt)]) (fun s => l.length - s.1) 2 ((0, k + 1, acc ++ [x]) : Nat × Nat × List It) ⟨by dsimp only; omega, by dsimp only; rw [hacc0, tw_is hk hno (by omega)]; simp, by rw [hacc0]; simp; omega⟩ (by repeat (first | exact .nil | refine .cons rfl ?_)) rfl (fun _ => rfl) (fun _ => (by simp [AO.conts, AV.cells, aIt]; rintro y a _ (rfl | rfl | rfl | rfl) <;> simp)) (fun s hI => ?_)
  obtain ⟨kk, gg, acc⟩ := s
  dsimp only at hI
  show AWP _ _ _ _ _ [(0, .sl (l.map aIt)), (3, .box (G.length + 0) 0), (5, .own (G.length + 1) gg), (7, .int .i64 (kk : Int))] _ [.box [.int .i64 x.id, .int .i64 x.free, .int .i64 x.held, .int .i64 x.gone], .row gg 64 4 (acc.map aIt)]
  obtain ⟨hk2, hacc, hlen⟩ := hI
  refine AWP.seq ?_
  refine sr fun _ => ?_
  refine mv ?_
  refine mv ?_
  refine ρv U22 ?_
  refine ρ2 ?_
  refine ez ?_
  refine ρp (fun h1 => ?_) (fun h1 => ?_)
  · try simp [-List.getD_eq_getElem?_getD] at h1
    refine AWP.skip (thenA_n ?_)
    refine AWP.seq (AWP.block (AWP.seq ?_))
    refine AWP.draw mixed (by kernel_rfl) (fun _ => ?_)
    refine mv ?_
    refine mv ?_
    first | refine ρe U22 sz64 ?_ | refine ρ7 U22 sz64 ?_
    refine ρ5 U64 sz3 ?_
    refine ρa U3 ?_
    refine ρ4 (fo := 0) U64 sz3 ?_
    refine ρd U3 ?_
    refine ρ2 ?_
    refine ⟨by kernel_rfl, _, _, rfl, hG, ?_⟩
    refine thenA_n ?_
    refine ρp (fun h2 => ?_) (fun h2 => ?_)
    · try simp [-List.getD_eq_getElem?_getD] at h2
      refine AWP.region (fun _ => ?_)
      refine mv ?_
      refine mv ?_
      refine mv ?_
      first | refine ρe U22 sz64 ?_ | refine ρ7 U22 sz64 ?_
      refine ρq U64 sz64 ?_
      refine ρA U22 sz64 zv64 ?_
      refine ARun.appendL hG rfl rfl rfl rfl U22 ti64 rfl (by decide) (ep rfl) (ep rfl) rfl rfl (by simp [maxLen]; omega) (by simp; omega) (map_snoc aIt acc (l.getD kk default)) optN rfl ?_
      refine ma ?_
      refine ⟨_, _, rfl, hG, ?_⟩
      refine blockA_n (thenA_n ?_)
      refine AWP.region (fun _ => ?_)
      refine mv ?_
      first | refine ρb ?_ | refine ρl ?_
      refine ma ?_
      refine ⟨_, _, rfl, hG, ?_⟩
      refine thenA_n ⟨rfl, (kk + 1, gg + 1, acc ++ [l.getD kk default]), _, ?_, ?_, rfl, ?_⟩
      · refine ⟨by dsimp only; omega, ?_, by simp; omega⟩
        dsimp only; rw [hacc, List.append_assoc]; congr 1; exact flt_yes h1 (by simpa using h2)
      · repeat (first | exact .nil | refine .cons rfl ?_)
      dsimp only; omega
    try simp [-List.getD_eq_getElem?_getD] at h2
    refine AWP.skip (blockA_n (thenA_n ?_))
    refine AWP.region (fun _ => ?_)
    refine mv ?_
    first | refine ρb ?_ | refine ρl ?_
    refine ma ?_
    refine ⟨_, _, rfl, hG, ?_⟩
    refine thenA_n ⟨rfl, (kk + 1, gg, acc), _, ?_, ?_, rfl, ?_⟩
    · refine ⟨by dsimp only; omega, ?_, by dsimp only; omega⟩
      dsimp only; rw [hacc]; congr 1; exact flt_no h1 (by simpa using h2)
    · repeat (first | exact .nil | refine .cons rfl ?_)
    dsimp only; omega
  try simp [-List.getD_eq_getElem?_getD] at h1
  refine AWP.exit ?_
  refine thenA_x ?_
  refine thenA_x ?_
  refine blockA_h ?_
  refine thenA_n ?_
  refine sr fun _ => ?_
  refine mv ?_
  refine mz ?_
  refine AWP.frzOwn 4 hG rfl rfl (by decide) (by simp [maxLen]; omega) rfl ?_
  refine AWP.ret ?_
  refine ρh ?_
  unfold put; rw [hacc, List.take_of_length_le h1, List.append_assoc]; rfl
set_option maxHeartbeats 1000000 in
theorem item_fn (l : List It) (id q : Int) (hl : l.length ≤ 1000) : FnP Tryz.prog 76 [.sl (l.map aIt), .int .i64 id, .int .i64 q] (.tup [aIt (itemP l id q).1, .int .i64 (itemP l id q).2]) := by
  have hi := itemP_cases l id q
  have hab := asked_iff l q
  refine FnP.of Tryz.func76 rfl rfl (by simp) (by simp [AV.cells, aIt]) (fun G hG => ?_)
  have hN : NoH G.length (.tup [aIt (itemP l id q).1, .int .i64 (itemP l id q).2]) := (by simp [AV.cells, aIt])
  refine sr fun _ => ?_
  refine ρo (j := 0) zv64 ?_
  refine mz ?_
  refine AWP.seq ?_
  refine sr fun _ => ?_
  refine mv ?_
  refine ρm cf30 (fun hg => checkR_fn l) ?_
  refine ρ2 ?_
  refine mv ?_
  refine ρk ?_
  refine ρ9 ?_
  refine ρ3 ?_
  refine mv ?_
  refine ρk ?_
  refine ρ9 ?_
  refine ρ3 ?_
  refine ez ?_
  refine ρp (fun h0 => ?_) (fun h0 => ?_)
  · try simp at h0
    refine sr fun _ => ?_
    refine ARun.build rfl rfl rfl rfl so64 .nil rfl rfl optN ?_
    refine ρ1 sz64 ?_
    refine mz ?_
    refine AWP.ret (thenA_r ?_)
    refine ρf (rs := [.cell 6 64, .tmp 7]) (.cons (.cellA rfl ((hG.at _ _).trans rfl) U64 rfl sz64 rfl rfl) (.cons (.tmp rfl) .nil)) ?_
    rcases hi with ⟨_, hi⟩ | ⟨ha, _, hi⟩ | ⟨ha, _, hi⟩
    · rw [hi]; rfl
    · have := hab.1 ha; omega
    have := hab.1 ha; omega
  try simp at h0
  refine AWP.skip (thenA_n ?_)
  refine sr fun _ => ?_
  refine mv ?_
  refine mv ?_
  refine ρj cf37 ?_ (hF := fun hg => findR_fn l id (by omega))
  refine mv ?_
  refine ρ6 ?_
  refine ρ6 ?_
  refine ρo (j := 1) zv64 ?_
  refine ρ1 sz64 ?_
  refine mz ?_
  refine AWP.seq ?_
  refine sr fun _ => ?_
  refine mv ?_
  refine ρC ?_
  refine ez ?_
  refine ρp (fun h1 => ?_) (fun h1 => ?_)
  · try simp at h1
    refine sr fun _ => ?_
    refine ρi U64 sz64 ?_
    refine ρ1 sz64 ?_
    refine mz ?_
    refine AWP.ret (thenA_r ?_)
    refine ρf (rs := [.cell 6 64, .tmp 7]) (.cons (.cellA rfl ((hG.at _ _).trans rfl) U64 rfl sz64 rfl rfl) (.cons (.tmp rfl) .nil)) ?_
    rcases hi with ⟨ha, hi⟩ | ⟨ha, _, hi⟩ | ⟨ha, hf, hi⟩
    · rw [hab.2 (by omega)] at ha; cases ha
    · rw [hi, find_no2 h1]; rfl
    rw [h1] at hf; cases hf
  try simp at h1
  refine AWP.skip (thenA_n ?_)
  refine sr fun _ => ?_
  refine ρi U64 sz64 ?_
  refine ρ1 sz64 ?_
  refine mz ?_
  refine AWP.ret ?_
  refine ρf (rs := [.cell 6 64, .tmp 7]) (.cons (.cellA rfl ((hG.at _ _).trans rfl) U64 rfl sz64 rfl rfl) (.cons (.tmp rfl) .nil)) ?_
  rcases hi with ⟨ha, hi⟩ | ⟨ha, hf, hi⟩ | ⟨ha, hf, hi⟩
  · rw [hab.2 (by omega)] at ha; cases ha
  · rw [h1] at hf; cases hf
  rw [hi]; rfl
set_option maxHeartbeats 1000000 in
theorem restockR_fn (l : List It) (id q : Int) (hl : l.length ≤ 1000) : FnP Tryz.prog 34 [.sl (l.map aIt), .int .i64 id, .int .i64 q] (.tup [.sl ((withP (inG q) l id q).1.map aIt), .int .i64 (withP (inG q) l id q).2]) := by
  refine FnP.of Tryz.func34 rfl rfl (by simp) (by simp [AV.cells, aIt]) (fun G hG => ?_)
  have hN : NoH G.length (.tup [.sl ((withP (inG q) l id q).1.map aIt), .int .i64 (withP (inG q) l id q).2]) := (by simp [AV.cells, aIt])
  refine sr fun _ => ?_
  refine ma ?_
  refine mz ?_
  refine sr fun _ => ?_
  refine mv ?_
  refine mv ?_
  refine mv ?_
  refine ARun.call rfl rfl rfl rfl cf76 (ep rfl) (.cons (ep rfl) (.cons (ep rfl) (.cons (ep rfl) .nil))) rfl (fun hg => item_fn l id q hl) optN ?_
  refine mv ?_
  refine ρ6 ?_
  refine ρ6 ?_
  refine ρo (j := 0) zv64 ?_
  refine ρ1 sz64 ?_
  refine mz ?_
  refine AWP.seq ?_
  refine sr fun _ => ?_
  refine mv ?_
  refine ρ2 ?_
  refine ez ?_
  refine ρp (fun h0 => ?_) (fun h0 => ?_)
  · try simp at h0
    refine sr fun _ => ?_
    refine mv ?_
    refine ma ?_
    refine mz ?_
    refine AWP.ret (thenA_r ?_)
    refine ρf (rs := [.tmp 6, .tmp 7]) (.cons (.tmp rfl) (.cons (.tmp rfl) .nil)) ?_
    rw [item_bad h0]; rfl
  simp at h0
  have hb := item_bd h0
  refine AWP.skip (thenA_n (AWP.seq ?_))
  refine sr fun _ => ?_
  refine mv ?_
  refine ρ4 (fo := 1) U64 sz3 ?_
  refine ρd U3 ?_
  first | refine ρb ?_ | refine ρl ?_
  refine ρ4 (fo := 2) U64 sz3 ?_
  refine ρd U3 ?_
  first | refine ρb ?_ | refine ρl ?_
  refine ρ4 (fo := 3) U64 sz3 ?_
  refine ρd U3 ?_
  first | refine ρb ?_ | refine ρl ?_
  refine ρ2 ?_
  refine ez ?_
  refine ρp (fun h1 => ?_) (fun h1 => ?_)
  · try simp at h1
    refine sr fun _ => ?_
    refine ma ?_
    refine mz ?_
    refine AWP.ret (thenA_r ?_)
    refine ρf (rs := [.tmp 6, .tmp 7]) (.cons (.tmp rfl) (.cons (.tmp rfl) .nil)) ?_
    rw [restock_bad h0 (by omega)]; rfl
  try simp at h1
  refine AWP.skip (thenA_n ?_)
  refine sr fun _ => ?_
  refine ρ4 (fo := 1) U64 sz3 ?_
  refine ρd U3 ?_
  refine mv ?_
  first | refine ρb ?_ | refine ρl ?_
  refine ρ4 (fo := 1) U64 sz3 ?_
  refine ρs sz3 ?_
  refine ez ?_
  refine sr fun _ => ?_
  refine mv ?_
  refine ρi U64 sz64 ?_
  refine ρg cf75 (fun hg => put_fn l ⟨(itemP l id q).1.id, (itemP l id q).1.free + q, (itemP l id q).1.held, (itemP l id q).1.gone⟩ hl) ?_
  refine ma ?_
  refine mz ?_
  refine AWP.ret ?_
  refine ρf (rs := [.tmp 6, .tmp 7]) (.cons (.tmp rfl) (.cons (.tmp rfl) .nil)) ?_
  rw [restock_good h0 (by omega)]; rfl
set_option maxHeartbeats 1000000 in
theorem goesR_fn (l : List It) (id q how : Int) (hl : l.length ≤ 1000) : FnP Tryz.prog 35 [.sl (l.map aIt), .int .i64 id, .int .i64 q, .int .i64 how] (.tup [.sl ((goesM l id q how).1.map aIt), .int .i64 (goesM l id q how).2]) := by
  refine FnP.of Tryz.func35 rfl rfl (by simp) (by simp [AV.cells, aIt]) (fun G hG => ?_)
  have hN : NoH G.length (.tup [.sl ((goesM l id q how).1.map aIt), .int .i64 (goesM l id q how).2]) := (by simp [AV.cells, aIt])
  refine sr fun _ => ?_
  refine ma ?_
  refine mz ?_
  refine sr fun _ => ?_
  refine mv ?_
  refine mv ?_
  refine mv ?_
  refine ARun.call rfl rfl rfl rfl cf76 (ep rfl) (.cons (ep rfl) (.cons (ep rfl) (.cons (ep rfl) .nil))) rfl (fun hg => item_fn l id q hl) optN ?_
  refine mv ?_
  refine ρ6 ?_
  refine ρ6 ?_
  refine ρo (j := 0) zv64 ?_
  refine ρ1 sz64 ?_
  refine mz ?_
  refine AWP.seq ?_
  refine sr fun _ => ?_
  refine mv ?_
  refine ρ2 ?_
  refine ez ?_
  refine ρp (fun h0 => ?_) (fun h0 => ?_)
  · try simp at h0
    refine sr fun _ => ?_
    refine mv ?_
    refine ma ?_
    refine mz ?_
    refine AWP.ret (thenA_r ?_)
    refine ρf (rs := [.tmp 8, .tmp 9]) (.cons (.tmp rfl) (.cons (.tmp rfl) .nil)) ?_
    rw [goes_none h0]; rfl
  simp at h0
  have hb := item_bd h0
  refine AWP.skip (thenA_n (AWP.seq ?_))
  refine sr fun _ => ?_
  refine mv ?_
  refine ρ2 ?_
  refine mv ?_
  refine ρt (fo := 1) U64 sz3 ?_
  refine ρr U3 ?_
  refine ρk ?_
  refine ρu ?_
  refine ρ0 ?_
  refine mv ?_
  refine ρk ?_
  refine ρ9 ?_
  refine ARun.move (.inl rfl) rfl rfl rfl (Ev.opt rfl (fun h => h)) optS ?_
  refine ρt (fo := 2) U64 sz3 ?_
  refine ρr U3 ?_
  refine ρk ?_
  refine ρu ?_
  refine ARun.pick rfl rfl rfl rfl (Ev.opt rfl (fun h => h)) (Ev.opt rfl (by first | exact pkT | exact pkT2 | simp +contextual)) (ep rfl) (andB _ _) optS ?_
  refine ρ3 ?_
  refine ez ?_
  refine ρp (fun h1 => ?_) (fun h1 => ?_)
  · try simp at h1
    refine sr fun _ => ?_
    refine ma ?_
    refine mz ?_
    refine AWP.ret (thenA_r ?_)
    refine ρf (rs := [.tmp 8, .tmp 9]) (.cons (.tmp rfl) (.cons (.tmp rfl) .nil)) ?_
    rw [goes_bad h0 (by omega)]; rfl
  try simp at h1
  refine AWP.skip (thenA_n (AWP.seq ?_))
  refine sr fun _ => ?_
  refine mv ?_
  refine ez ?_
  refine AWP.block ?_
  refine sr fun _ => ?_
  refine ρ2 ?_
  refine mz ?_
  refine ρp (fun h2 => ?_) (fun h2 => ?_)
  · try simp at h2
    refine AWP.region (fun _ => ?_)
    refine ρ4 (fo := 1) U64 sz3 ?_
    refine ρd U3 ?_
    refine mv ?_
    first | refine ρb ?_ | refine ρl ?_
    refine ρ4 (fo := 2) U64 sz3 ?_
    refine ρd U3 ?_
    refine mv ?_
    first | refine ρb ?_ | refine ρl ?_
    refine ρ4 (fo := 1) U64 sz3 ?_
    refine ρs sz3 ?_
    refine ρ4 (fo := 2) U64 sz3 ?_
    refine ρs sz3 ?_
    refine ⟨_, _, rfl, hG, ?_⟩
    refine blockA_n (thenA_n ?_)
    refine sr fun _ => ?_
    refine mv ?_
    refine ρi U64 sz64 ?_
    refine ρg cf75 (fun hg => put_fn l ⟨(itemP l id q).1.id, (itemP l id q).1.free - q, (itemP l id q).1.held + q, (itemP l id q).1.gone⟩ hl) ?_
    refine ma ?_
    refine mz ?_
    refine AWP.ret ?_
    refine ρf (rs := [.tmp 8, .tmp 9]) (.cons (.tmp rfl) (.cons (.tmp rfl) .nil)) ?_
    rw [goes_1 h0 (by omega) (by omega)]; rfl
  try simp at h2
  refine sr fun _ => ?_
  refine ρ2 ?_
  refine mz ?_
  refine ρp (fun h3 => ?_) (fun h3 => ?_)
  · try simp at h3
    refine AWP.region (fun _ => ?_)
    refine ρ4 (fo := 1) U64 sz3 ?_
    refine ρd U3 ?_
    refine mv ?_
    first | refine ρb ?_ | refine ρl ?_
    refine ρ4 (fo := 2) U64 sz3 ?_
    refine ρd U3 ?_
    refine mv ?_
    first | refine ρb ?_ | refine ρl ?_
    refine ρ4 (fo := 1) U64 sz3 ?_
    refine ρs sz3 ?_
    refine ρ4 (fo := 2) U64 sz3 ?_
    refine ρs sz3 ?_
    refine ⟨_, _, rfl, hG, ?_⟩
    refine blockA_n (thenA_n ?_)
    refine sr fun _ => ?_
    refine mv ?_
    refine ρi U64 sz64 ?_
    refine ρg cf75 (fun hg => put_fn l ⟨(itemP l id q).1.id, (itemP l id q).1.free + q, (itemP l id q).1.held - q, (itemP l id q).1.gone⟩ hl) ?_
    refine ma ?_
    refine mz ?_
    refine AWP.ret ?_
    refine ρf (rs := [.tmp 8, .tmp 9]) (.cons (.tmp rfl) (.cons (.tmp rfl) .nil)) ?_
    rw [goes_2 h0 (by omega) (by omega)]; rfl
  try simp at h3
  refine AWP.region (fun _ => ?_)
  refine ρ4 (fo := 2) U64 sz3 ?_
  refine ρd U3 ?_
  refine mv ?_
  first | refine ρb ?_ | refine ρl ?_
  refine ρ4 (fo := 3) U64 sz3 ?_
  refine ρd U3 ?_
  refine mv ?_
  first | refine ρb ?_ | refine ρl ?_
  refine ρ4 (fo := 2) U64 sz3 ?_
  refine ρs sz3 ?_
  refine ρ4 (fo := 3) U64 sz3 ?_
  refine ρs sz3 ?_
  refine ⟨_, _, rfl, hG, ?_⟩
  refine blockA_n (thenA_n ?_)
  refine sr fun _ => ?_
  refine mv ?_
  refine ρi U64 sz64 ?_
  refine ρg cf75 (fun hg => put_fn l ⟨(itemP l id q).1.id, (itemP l id q).1.free, (itemP l id q).1.held - q, (itemP l id q).1.gone + q⟩ hl) ?_
  refine ma ?_
  refine mz ?_
  refine AWP.ret ?_
  refine ρf (rs := [.tmp 8, .tmp 9]) (.cons (.tmp rfl) (.cons (.tmp rfl) .nil)) ?_
  rw [goes_3 h0 (by omega) (by omega) (by omega)]; rfl
set_option maxHeartbeats 1000000 in
theorem createR_fn (l : List It) (id q : Int) (hl : l.length ≤ 1000) : FnP Tryz.prog 33 [.sl (l.map aIt), .int .i64 id, .int .i64 q] (.tup [.sl ((createP l id q).1.map aIt), .int .i64 (createP l id q).2]) := by
  refine FnP.of Tryz.func33 rfl rfl (by simp) (by simp [AV.cells, aIt]) (fun G hG => ?_)
  have hN : NoH G.length (.tup [.sl ((createP l id q).1.map aIt), .int .i64 (createP l id q).2]) := (by simp [AV.cells, aIt])
  refine sr fun _ => ?_
  refine ma ?_
  refine mz ?_
  refine AWP.seq ?_
  refine sr fun _ => ?_
  refine mv ?_
  refine ρm cf30 (fun hg => checkR_fn l) ?_
  refine ρ2 ?_
  refine mv ?_
  refine ρk ?_
  refine ρ9 ?_
  refine ρ3 ?_
  refine mv ?_
  refine ρk ?_
  refine ρ9 ?_
  refine ρ3 ?_
  refine mv ?_
  refine ρk ?_
  refine ρ9 ?_
  refine ρ3 ?_
  refine mv ?_
  refine ρk ?_
  refine ρ9 ?_
  refine ρ3 ?_
  refine ez ?_
  refine ρp (fun h0 => ?_) (fun h0 => ?_)
  · try simp at h0
    refine sr fun _ => ?_
    refine ma ?_
    refine mz ?_
    refine AWP.ret (thenA_r ?_)
    refine ρf (rs := [.tmp 6, .tmp 7]) (.cons (.tmp rfl) (.cons (.tmp rfl) .nil)) ?_
    rw [create_arg (by omega)]; rfl
  simp at h0
  have hc := create_ok (l := l) (id := id) (q := q) (by omega) (by omega) (by omega)
  have h20 := ok_len (okE_ok.1 (show okE l = 0 by omega))
  refine AWP.skip (thenA_n ?_)
  refine sr fun _ => ?_
  refine mv ?_
  refine mv ?_
  refine ρj cf37 ?_ (hF := fun hg => findR_fn l id (by omega))
  refine mv ?_
  refine ρ6 ?_
  refine ρ6 ?_
  refine ρo (j := 0) zv64 ?_
  refine ρ1 sz64 ?_
  refine mz ?_
  refine AWP.seq ?_
  refine sr fun _ => ?_
  refine mv ?_
  refine ez ?_
  refine ρp (fun h1 => ?_) (fun h1 => ?_)
  · try simp at h1
    refine sr fun _ => ?_
    refine ma ?_
    refine mz ?_
    refine AWP.ret (thenA_r ?_)
    refine ρf (rs := [.tmp 6, .tmp 7]) (.cons (.tmp rfl) (.cons (.tmp rfl) .nil)) ?_
    rw [hc, if_pos h1]; rfl
  try simp at h1
  refine AWP.skip (thenA_n (AWP.seq ?_))
  refine sr fun _ => ?_
  refine mv ?_
  refine ρv U22 ?_
  refine ρ2 ?_
  refine ez ?_
  refine ρp (fun h2 => ?_) (fun h2 => ?_)
  · try simp at h2
    refine sr fun _ => ?_
    refine ma ?_
    refine mz ?_
    refine AWP.ret (thenA_r ?_)
    refine ρf (rs := [.tmp 6, .tmp 7]) (.cons (.tmp rfl) (.cons (.tmp rfl) .nil)) ?_
    rw [hc, if_neg (by simp [h1]), if_pos (by omega)]; rfl
  try simp at h2
  refine AWP.skip (thenA_n ?_)
  refine sr fun _ => ?_
  refine mv ?_
  refine mv ?_
  refine mv ?_
  refine ARun.build rfl rfl rfl rfl so64 (.cons (ep rfl) (.cons (ep rfl) .nil)) rfl rfl optN ?_
  refine ρg cf75 (fun hg => put_fn l ⟨id, q, 0, 0⟩ hl) ?_
  refine ma ?_
  refine mz ?_
  refine AWP.ret ?_
  refine ρf (rs := [.tmp 6, .tmp 7]) (.cons (.tmp rfl) (.cons (.tmp rfl) .nil)) ?_
  rw [hc, if_neg (by simp [h1]), if_neg (by omega)]; rfl
set_option maxHeartbeats 1000000 in
theorem moveR_fn (l : List It) (a b q : Int) (hl : l.length ≤ 400) : FnP Tryz.prog 36 [.sl (l.map aIt), .int .i64 a, .int .i64 b, .int .i64 q] (.tup [.sl ((moveP l a b q).1.map aIt), .int .i64 (moveP l a b q).2]) := by
  refine FnP.of Tryz.func36 rfl rfl (by simp) (by simp [AV.cells, aIt]) (fun G hG => ?_)
  have hN : NoH G.length (.tup [.sl ((moveP l a b q).1.map aIt), .int .i64 (moveP l a b q).2]) := (by simp [AV.cells, aIt])
  refine sr fun _ => ?_
  refine ma ?_
  refine mz ?_
  refine sr fun _ => ?_
  refine mv ?_
  refine mv ?_
  refine mv ?_
  refine ARun.call rfl rfl rfl rfl cf76 (ep rfl) (.cons (ep rfl) (.cons (ep rfl) (.cons (ep rfl) .nil))) rfl (fun hg => item_fn l a q (by omega)) optN ?_
  refine mv ?_
  refine ρ6 ?_
  refine ρ6 ?_
  refine ρo (j := 0) zv64 ?_
  refine ρ1 sz64 ?_
  refine mz ?_
  refine sr fun _ => ?_
  refine mv ?_
  refine mv ?_
  refine mv ?_
  refine ARun.call rfl rfl rfl rfl cf76 (ep rfl) (.cons (ep rfl) (.cons (ep rfl) (.cons (ep rfl) .nil))) rfl (fun hg => item_fn l b q (by omega)) optN ?_
  refine mv ?_
  refine ρ6 ?_
  refine ρ6 ?_
  refine ρo (j := 1) zv64 ?_
  refine ρ1 sz64 ?_
  refine mz ?_
  refine AWP.seq ?_
  refine sr fun _ => ?_
  refine mv ?_
  refine ρ2 ?_
  refine mv ?_
  refine ρk ?_
  refine ρk ?_
  refine ρu ?_
  refine ρ3 ?_
  refine ez ?_
  refine ρp (fun h0 => ?_) (fun h0 => ?_)
  · try simp at h0
    refine sr fun _ => ?_
    refine ma ?_
    refine mz ?_
    refine AWP.ret (thenA_r ?_)
    refine ρf (rs := [.tmp 8, .tmp 9]) (.cons (.tmp rfl) (.cons (.tmp rfl) .nil)) ?_
    rw [move_arg h0]; rfl
  try simp at h0
  refine AWP.skip (thenA_n (AWP.seq ?_))
  refine sr fun _ => ?_
  refine mv ?_
  refine ρ2 ?_
  refine mv ?_
  refine ρk ?_
  refine ρ9 ?_
  refine ρ3 ?_
  refine ez ?_
  refine ρp (fun h1 => ?_) (fun h1 => ?_)
  · try simp at h1
    refine sr fun _ => ?_
    refine ma ?_
    refine mz ?_
    refine AWP.ret (thenA_r ?_)
    refine ρf (rs := [.tmp 8, .tmp 9]) (.cons (.tmp rfl) (.cons (.tmp rfl) .nil)) ?_
    rw [move_none (by omega) (by omega)]; rfl
  simp at h1
  have hb1 := item_bd h1.1
  have hb2 := item_bd h1.2
  obtain ⟨m1, m2, m3⟩ := move_item h1.1 h1.2 (by omega)
  refine AWP.skip (thenA_n (AWP.seq ?_))
  refine sr fun _ => ?_
  refine ρ4 (fo := 1) U64 sz3 ?_
  refine ρd U3 ?_
  refine mv ?_
  refine ρ2 ?_
  refine ez ?_
  refine ρp (fun h2 => ?_) (fun h2 => ?_)
  · try simp at h2
    refine sr fun _ => ?_
    refine ma ?_
    refine mz ?_
    refine AWP.ret (thenA_r ?_)
    refine ρf (rs := [.tmp 8, .tmp 9]) (.cons (.tmp rfl) (.cons (.tmp rfl) .nil)) ?_
    rw [m1 (by omega)]; rfl
  try simp at h2
  refine AWP.skip (thenA_n (AWP.seq ?_))
  refine sr fun _ => ?_
  refine mv ?_
  refine ρ4 (fo := 1) U64 sz3 ?_
  refine ρd U3 ?_
  first | refine ρb ?_ | refine ρl ?_
  refine ρ4 (fo := 2) U64 sz3 ?_
  refine ρd U3 ?_
  first | refine ρb ?_ | refine ρl ?_
  refine ρ4 (fo := 3) U64 sz3 ?_
  refine ρd U3 ?_
  first | refine ρb ?_ | refine ρl ?_
  refine ρ2 ?_
  refine ez ?_
  refine ρp (fun h3 => ?_) (fun h3 => ?_)
  · try simp at h3
    refine sr fun _ => ?_
    refine ma ?_
    refine mz ?_
    refine AWP.ret (thenA_r ?_)
    refine ρf (rs := [.tmp 8, .tmp 9]) (.cons (.tmp rfl) (.cons (.tmp rfl) .nil)) ?_
    rw [m2 (by omega) (by omega)]; rfl
  try simp at h3
  refine AWP.skip (thenA_n ?_)
  refine sr fun _ => ?_
  refine ρ4 (fo := 1) U64 sz3 ?_
  refine ρd U3 ?_
  refine mv ?_
  first | refine ρb ?_ | refine ρl ?_
  refine ρ4 (fo := 1) U64 sz3 ?_
  refine ρs sz3 ?_
  refine ez ?_
  refine sr fun _ => ?_
  refine ρ4 (fo := 1) U64 sz3 ?_
  refine ρd U3 ?_
  refine mv ?_
  first | refine ρb ?_ | refine ρl ?_
  refine ρ4 (fo := 1) U64 sz3 ?_
  refine ρs sz3 ?_
  refine ez ?_
  refine AWP.seq ?_
  refine AWP.draw mixed (by kernel_rfl) (fun _ => ?_)
  refine mv ?_
  refine ρi U64 sz64 ?_
  refine ρj cf75 ?_ (hF := fun hg => put_fn l ⟨(itemP l a q).1.id, (itemP l a q).1.free - q, (itemP l a q).1.held, (itemP l a q).1.gone⟩ (by omega))
  refine ρi U64 sz64 ?_
  refine ρj cf75 ?_ (hF := fun hg => put_fn (put l ⟨(itemP l a q).1.id, (itemP l a q).1.free - q, (itemP l a q).1.held, (itemP l a q).1.gone⟩) ⟨(itemP l b q).1.id, (itemP l b q).1.free + q, (itemP l b q).1.held, (itemP l b q).1.gone⟩ (by have := put_len l ⟨(itemP l a q).1.id, (itemP l a q).1.free - q, (itemP l a q).1.held, (itemP l a q).1.gone⟩; omega))
  refine ma ?_
  refine ma ?_
  refine ⟨by kernel_rfl, _, _, rfl, hG, ?_⟩
  refine thenA_n (AWP.ret ?_)
  refine ρf (rs := [.tmp 8, .tmp 9]) (.cons (.tmp rfl) (.cons (.tmp rfl) .nil)) ?_
  rw [m3 (by omega) (by omega)]; rfl
end Go.Proofs.YtgebpndhnkkbgaaGreatDoor.Stk
namespace Go.Proofs.YtgebpndhnkkbgaaGreatDoor
set_option linter.unusedVariables false
set_option linter.unusedSimpArgs false
open Go.RowKit
open NumP
set_option maxRecDepth 100000
theorem fit_at {l : List Int} (hf : ∀ x, x ∈ l → -9223372036854775808 ≤ x ∧ x ≤ 9223372036854775807) {k : Nat} (hk : k < l.length) : -9223372036854775808 ≤ l.getD k default ∧ l.getD k default ≤ 9223372036854775807 := by
  simp only [List.getD, List.getElem?_eq_getElem hk, Option.getD_some]; exact hf _ (List.getElem_mem hk)
theorem liesB : liesAt Tryz.prog Tryz.prog.depth 170 (2 / Tryz.prog.cellsOf 170) 0 170 1 = true := by kernel_rfl
theorem writeB (l : List UInt8) (t : ByteArray) (h : l.length + t.size ≤ 100000000) : FnM Tryz.prog 159 (fun i => [.box i 0, .str t]) [.adr 170, .buf 5 (bs l)] (.tup [.int .i64 t.size, .raw .nilIface]) [.adr 170, .buf 5 (bs l ++ t)] :=
  bld_write (n := 2) liesB (by decide) (bs l) t [] rfl (by rw [bs_size]; omega)
set_option maxHeartbeats 1000000 in
theorem rowPut_fn (n : Int) (h : -9223372036854775808 ≤ n ∧ n ≤ 9223372036854775807) (l : List UInt8) (hl : l.length ≤ 1000000) : FnM Tryz.prog 161 (fun i => [.int .i64 n, .box i 0]) ([.adr 170, .buf 5 (bs l)]) (.int .i64 (putN n).2) ([.adr 170, .buf 5 (bs (l ++ (putN n).1))]) := by
  have hpl := putN_len n
  refine FnM.of Tryz.func161 rfl rfl (fun i => by simp) (fun H i m hHm hi hG => ?_)
  have hN : NoH H.length (.int .i64 (putN n).2) := (by simp)
  refine sr fun _ => ?_
  refine mz ?_
  refine sr fun _ => ?_
  refine mv ?_
  refine ρm cf146 (fun hg => put_fn n h) ?_
  refine mv ?_
  refine ρ6 ?_
  refine ρ6 ?_
  refine ma ?_
  refine mz ?_
  refine sr fun _ => ?_
  refine mv ?_
  refine ARun.callO hi hG rfl rfl rfl rfl cf159 (ep rfl) (.cons (ep rfl) (.cons (ep rfl) .nil)) rfl (writeB l (bs (putN n).1) (by rw [bs_size]; omega) _ _ (atO hi)) (by simp) optN (fun hG => ?_)
  refine ez ?_
  refine sr fun _ => ?_
  refine mv ?_
  refine mz ?_
  refine AWP.ret ?_
  refine endF.toG (congrArg (fun c => H.set i (AO.box c)) (by rw [bs_append])) ?_
  refine endF.one (.inr rfl) rfl (.tmp rfl) ?_ (by rw [List.length_set]; exact hN)
  rfl
theorem rowPut_st (x : Int) (h : -9223372036854775808 ≤ x ∧ x ≤ 9223372036854775807) (a : List UInt8 × Int) (ha : a.1.length ≤ 1000000) (h0 : a.2 = 0) : FnM Tryz.prog 161 (fun i => [.int .i64 x, .box i 0]) ([.adr 170, .buf 5 (bs a.1)]) (.int .i64 (rowStep a x).2) ([.adr 170, .buf 5 (bs (rowStep a x).1)]) := by
  rw [show rowStep a x = (a.1 ++ (putN x).1, (putN x).2) from if_pos h0]; exact rowPut_fn x h a.1 ha
set_option maxHeartbeats 1000000 in
theorem rowN_fn (l : List Int) (hl : l.length ≤ 10000) (hf : ∀ x, x ∈ l → -9223372036854775808 ≤ x ∧ x ≤ 9223372036854775807) : FnP Tryz.prog 147 [.sl (l.map (AV.int .i64))] (.tup [.str (bs (rowN l).1), .int .i64 (rowN l).2]) := by
  have hpe : (putN (l.length : Int)).2 = 0 := by rw [putN_err, if_pos (by omega)]
  have hp0 : FnM Tryz.prog 161 (fun i => [.int .i64 ((l.map (AV.int .i64)).length : Int), .box i 0]) ([.adr 170, .buf 5 (bs [])]) (.int .i64 (putN (l.length : Int)).2) ([.adr 170, .buf 5 (bs ([] ++ (putN (l.length : Int)).1))]) := by rw [List.length_map]; exact rowPut_fn l.length (by omega) [] (by simp)
  refine FnP.of Tryz.func147 rfl rfl (by simp) (by simp [AV.cells]) (fun G hG => ?_)
  have hN : NoH G.length (.tup [.str (bs (rowN l).1), .int .i64 (rowN l).2]) := (by simp [AV.cells])
  refine sr fun _ => ?_
  refine ma ?_
  refine mz ?_
  refine sr fun _ => ?_
  refine ARun.allocBld (j := 0) (e := 5) hG rfl rfl rfl rfl rfl zv170 rfl rfl rfl optN ?_
  refine ez ?_
  refine sr fun _ => ?_
  refine ARun.makeFunc rfl rfl rfl rfl .nil (.cons (ep rfl) .nil) optN ?_
  refine mz ?_
  refine sr fun _ => ?_
  refine mv ?_
  refine mv ?_
  refine ρv U29 ?_
  refine ARun.callSet (j := 0) hG rfl rfl rfl rfl cf161 (ep rfl) (.cons (ep rfl) .nil) rfl (hp0 _ _ ((hG.at _ _).trans rfl)) rfl optN ?_
  refine mz ?_
  refine AWP.seq ?_
  refine sr fun _ => ?_
  refine mv ?_
  refine ρv U29 ?_
  refine mv ?_
  refine ez ?_
  refine AWP.block ?_
  refine AWP.rounds (fun s => s.1 ≤ l.length ∧ s.2 = rowS l s.1) (fun s => [(5, .fn (.func 161) [] [.box (G.length + 0) 0]), (6, .int .i64 s.2.2), (14, .sl (l.map (AV.int .i64))), (15, .int .i64 ((l.map (AV.int .i64)).length : Int)), (16, .int .i64 (s.1 : Int)), (4, .box (G.length + 0) 0)]) (fun s => [.box ([.adr 170, .buf 5 (bs s.2.1)])]) (fun s => l.length - s.1) 1 ((0, rowS l 0) : Nat × (List UInt8 × Int)) ⟨Nat.zero_le _, rfl⟩ (by rw [show (rowS l 0).2 = (putN (l.length : Int)).2 from hpe.symm]; repeat (first | exact .nil | refine .cons rfl ?_)) rfl (fun _ => rfl) (fun _ => ⟨by simp [AV.cells], by simp [AO.conts]⟩) (fun s hI => ?_)
  obtain ⟨k, a⟩ := s
  dsimp only at hI
  show AWP _ _ _ _ _ [(5, .fn (.func 161) [] [.box (G.length + 0) 0]), (6, .int .i64 a.2), (14, .sl (l.map (AV.int .i64))), (15, .int .i64 ((l.map (AV.int .i64)).length : Int)), (16, .int .i64 (k : Int)), (4, .box (G.length + 0) 0)] _ [.box ([.adr 170, .buf 5 (bs a.1)])]
  obtain ⟨hk, ha⟩ := hI
  have hal := rowS_len l k
  rw [← ha] at hal
  refine sr fun _ => ?_
  refine ρ2 ?_
  refine ez ?_
  refine AWP.seq ?_
  refine ρp (fun h0 => ?_) (fun h0 => ?_)
  · simp [-List.getD_eq_getElem?_getD] at h0
    refine AWP.skip (thenA_n ?_)
    refine AWP.seq (AWP.block ?_)
    refine sr fun _ => ?_
    first | refine ρe U29 sz3 ?_ | refine ρ7 U29 sz3 ?_
    refine ρa U3 ?_
    refine mz ?_
    refine sr fun _ => ?_
    refine mv ?_
    refine ρ2 ?_
    refine ez ?_
    refine ρp (fun h1 => ?_) (fun h1 => ?_)
    · try simp [-List.getD_eq_getElem?_getD] at h1
      refine AWP.region (fun _ => ?_)
      refine mv ?_
      refine mv ?_
      refine ARun.callSet (j := 0) hG rfl rfl rfl rfl cf161 (ep rfl) (.cons (ep rfl) .nil) rfl (rowPut_st _ (fit_at hf (by simpa using h0)) a (by omega) h1 _ _ ((hG.at _ _).trans rfl)) rfl optN ?_
      refine ma ?_
      refine ⟨_, _, rfl, hG, ?_⟩
      refine blockA_n (thenA_n ?_)
      refine AWP.region (fun _ => ?_)
      first | refine ρb ?_ | refine ρl ?_
      refine mv ?_
      refine ⟨_, _, rfl, hG, ?_⟩
      refine thenA_n ⟨rfl, (k + 1, rowStep a (l.getD k default)), _, ?_, ?_, rfl, ?_⟩
      · refine ⟨by omega, ?_⟩
        show rowStep a _ = _
        rw [rowS_succ l k (by omega), ha]
      · repeat (first | exact .nil | refine .cons rfl ?_)
      dsimp only; omega
    try simp [-List.getD_eq_getElem?_getD] at h1
    refine AWP.skip (blockA_n (thenA_n ?_))
    refine AWP.region (fun _ => ?_)
    first | refine ρb ?_ | refine ρl ?_
    refine mv ?_
    refine ⟨_, _, rfl, hG, ?_⟩
    refine thenA_n ⟨rfl, (k + 1, a), _, ?_, ?_, rfl, ?_⟩
    · refine ⟨by omega, ?_⟩
      show a = _
      rw [rowS_succ l k (by omega), ← ha, rowStep, if_neg h1]
    · repeat (first | exact .nil | refine .cons rfl ?_)
    dsimp only; omega
  simp at h0
  obtain rfl : k = l.length := by omega
  have hall := rowS_all l
  rw [← ha] at hall
  refine AWP.exit ?_
  refine thenA_x ?_
  refine thenA_x ?_
  refine blockA_h ?_
  refine thenA_n (AWP.seq ?_)
  refine sr fun _ => ?_
  refine mv ?_
  refine ρ2 ?_
  refine ez ?_
  refine ρp (fun h2 => ?_) (fun h2 => ?_)
  · try simp [-List.getD_eq_getElem?_getD] at h2
    refine sr fun _ => ?_
    refine mv ?_
    refine ma ?_
    refine mz ?_
    refine AWP.ret (thenA_r ?_)
    refine ρf (rs := [.tmp 2, .tmp 3]) (.cons (.tmp rfl) (.cons (.tmp rfl) .nil)) ?_
    rw [if_neg h2] at hall
    rw [← hall]; rfl
  try simp [-List.getD_eq_getElem?_getD] at h2
  refine AWP.skip (thenA_n ?_)
  refine sr fun _ => ?_
  refine ARun.callSet (j := 0) hG rfl rfl rfl rfl cf148 (ep rfl) (.cons (ep rfl) .nil) rfl (bld_string (n := 2) (bs a.1) [] _ _ ((hG.at _ _).trans rfl)) rfl optN ?_
  refine ma ?_
  refine mz ?_
  refine AWP.ret ?_
  refine ρf (rs := [.tmp 2, .tmp 3]) (.cons (.tmp rfl) (.cons (.tmp rfl) .nil)) ?_
  rw [if_pos h2] at hall
  rw [← hall]; rfl
theorem map_snocI (l : List Int) (x : Int) : l.map (AV.int .i64) ++ [AV.int .i64 x] = (l ++ [x]).map (AV.int .i64) := by simp
set_option maxHeartbeats 1000000 in
theorem unrowN_fn (s : ByteArray) (p top : Int) (hs : s.size ≤ 1000000) : FnP Tryz.prog 96 [.str s, .int .i64 p, .int .i64 top] (.tup [.sl ((unrowN (bl s) p top).1.map (AV.int .i64)), .int .i64 (unrowN (bl s) p top).2.1, .int .i64 (unrowN (bl s) p top).2.2]) := by
  have hbd := getN_bd (bl s) p (by rw [bl_len]; exact hs)
  have hdef : unrowN (bl s) p top = (if (getN (bl s) p).2.2 ≠ 0 then (([], 0, (getN (bl s) p).2.2) : List Int × Int × Int) else if (getN (bl s) p).1 > 1000 ∨ ((getN (bl s) p).1 > top ∧ (getN (bl s) p).1 > 0) then ([], 0, 3) else unrowF (bl s) (getN (bl s) p).1.toNat (getN (bl s) p).2.1 []) := rfl
  refine FnP.of Tryz.func96 rfl rfl (by simp) (by simp [AV.cells]) (fun G hG => ?_)
  have hN : NoH G.length (.tup [.sl ((unrowN (bl s) p top).1.map (AV.int .i64)), .int .i64 (unrowN (bl s) p top).2.1, .int .i64 (unrowN (bl s) p top).2.2]) := (by simp [AV.cells])
  refine sr fun _ => ?_
  refine ARun.nilOwn (e := 3) (z := 1) (j := 0) hG rfl ⟨.inl rfl, rfl⟩ (fun _ => rfl) rfl rfl rfl optN ?_
  refine ma ?_
  refine mz ?_
  refine sr fun _ => ?_
  refine mv ?_
  refine mv ?_
  refine ρg cf94 (fun hg => get_fn s p hs) ?_
  refine mv ?_
  refine ρ6 ?_
  refine ρ6 ?_
  refine ρ6 ?_
  refine ma ?_
  refine ma ?_
  refine mz ?_
  refine AWP.seq ?_
  refine sr fun _ => ?_
  refine mv ?_
  refine ρ2 ?_
  refine ez ?_
  refine ρp (fun h0 => ?_) (fun h0 => ?_)
  · have h0' : (getN (bl s) p).2.2 ≠ 0 := by simpa using h0
    refine sr fun _ => ?_
    refine mv ?_
    refine ma ?_
    refine ma ?_
    refine mz ?_
    refine AWP.ret (thenA_r ?_)
    refine ρf (rs := [.tmp 6, .tmp 7, .tmp 8]) (.cons (.tmp rfl) (.cons (.tmp rfl) (.cons (.tmp rfl) .nil))) ?_
    rw [hdef, if_pos h0']; rfl
  simp at h0
  have hlen : (getN (bl s) p).1.toNat ≤ (getN (bl s) p).1.toNat := Nat.le_refl _
  rw [if_neg (by simp [h0])] at hdef
  refine AWP.skip (thenA_n (AWP.seq ?_))
  refine sr fun _ => ?_
  refine mv ?_
  refine mv ?_
  refine ARun.minmax rfl rfl rfl rfl (ep rfl) (ep rfl) (.inr ⟨rfl, rfl⟩) optN ?_
  refine ARun.minmax rfl rfl rfl rfl (ep rfl) (ep rfl) (.inl ⟨rfl, rfl⟩) optN ?_
  refine ρ2 ?_
  refine ez ?_
  refine ρp (fun h1 => ?_) (fun h1 => ?_)
  · have h1' : (getN (bl s) p).1 > 1000 ∨ ((getN (bl s) p).1 > top ∧ (getN (bl s) p).1 > 0) := by simp at h1; omega
    rw [if_pos h1'] at hdef
    refine sr fun _ => ?_
    refine ma ?_
    refine ma ?_
    refine mz ?_
    refine AWP.ret (thenA_r ?_)
    refine ρf (rs := [.tmp 6, .tmp 7, .tmp 8]) (.cons (.tmp rfl) (.cons (.tmp rfl) (.cons (.tmp rfl) .nil))) ?_
    rw [hdef]; rfl
  have h1' : ¬ ((getN (bl s) p).1 > 1000 ∨ ((getN (bl s) p).1 > top ∧ (getN (bl s) p).1 > 0)) := by simp at h1; omega
  rw [if_neg h1'] at hdef
  refine AWP.skip (thenA_n (AWP.seq ?_))
  refine sr fun _ => ?_
  refine mv ?_
  refine mv ?_
  refine ez ?_
  refine AWP.block ?_
  refine AWP.rounds (fun st => st.1 ≤ (getN (bl s) p).1.toNat ∧ st.2.2.2.length = st.1 ∧ unrowF (bl s) ((getN (bl s) p).1.toNat - st.1) st.2.2.1 st.2.2.2 = unrowF (bl s) (getN (bl s) p).1.toNat (getN (bl s) p).2.1 []) (fun st => [(0, .str s), (6, .own (G.length + 0) st.2.1), (7, .int .i64 st.2.2.1), (28, .int .i64 (getN (bl s) p).1), (29, .int .i64 (st.1 : Int))]) (fun st => [.row st.2.1 3 1 (st.2.2.2.map (AV.int .i64))]) (fun st => (getN (bl s) p).1.toNat - st.1) 1 ((0, 0, (getN (bl s) p).2.1, []) : Nat × Nat × Int × List Int) ⟨Nat.zero_le _, rfl, rfl⟩ (by repeat (first | exact .nil | refine .cons rfl ?_)) rfl (fun _ => rfl) (fun _ => ⟨by simp [AV.cells], by simp [AO.conts, AV.cells]; rintro y a _ rfl; simp⟩) (fun st hI => ?_)
  obtain ⟨k, g, to, acc⟩ := st
  dsimp only at hI
  show AWP _ _ _ _ _ [(0, .str s), (6, .own (G.length + 0) g), (7, .int .i64 to), (28, .int .i64 (getN (bl s) p).1), (29, .int .i64 (k : Int))] _ [.row g 3 1 (acc.map (AV.int .i64))]
  obtain ⟨hk, hal, hu⟩ := hI
  refine sr fun _ => ?_
  refine ρ2 ?_
  refine ez ?_
  refine AWP.seq ?_
  refine ρp (fun h2 => ?_) (fun h2 => ?_)
  · simp at h2
    refine AWP.skip (thenA_n ?_)
    refine AWP.seq (AWP.block ?_)
    refine sr fun _ => ?_
    refine mv ?_
    refine mv ?_
    refine ρg cf94 (fun hg => get_fn s to hs) ?_
    refine mv ?_
    refine ρ6 ?_
    refine ρ6 ?_
    refine ρ6 ?_
    refine ma ?_
    refine ma ?_
    refine mz ?_
    refine AWP.seq ?_
    refine sr fun _ => ?_
    refine mv ?_
    refine ρ2 ?_
    refine ez ?_
    refine ρp (fun h3 => ?_) (fun h3 => ?_)
    · have h3' : (getN (bl s) to).2.2 ≠ 0 := by simpa using h3
      rw [show (getN (bl s) p).1.toNat - k = ((getN (bl s) p).1.toNat - (k + 1)) + 1 by omega, unrow_step, if_pos h3'] at hu
      refine sr fun _ => ?_
      refine mv ?_
      refine ma ?_
      refine ma ?_
      refine mz ?_
      refine AWP.ret (thenA_r ?_)
      refine blockA_r (thenA_r ?_)
      refine thenA_r (blockA_r (thenA_r ?_))
      refine ρf (rs := [.tmp 6, .tmp 7, .tmp 8]) (.cons (.tmp rfl) (.cons (.tmp rfl) (.cons (.tmp rfl) .nil))) ?_
      rw [hdef, ← hu]; rfl
    simp at h3
    rw [show (getN (bl s) p).1.toNat - k = ((getN (bl s) p).1.toNat - (k + 1)) + 1 by omega, unrow_step, if_neg (by simp [h3])] at hu
    refine AWP.skip (thenA_n ?_)
    refine AWP.region (fun _ => ?_)
    refine mv ?_
    refine mv ?_
    refine ρA U29 sz3 zv3 ?_
    refine ARun.appendL hG rfl rfl rfl rfl U29 ti3 rfl (by decide) (ep rfl) (ep rfl) rfl rfl (by simp [maxLen]; omega) (by simp; omega) (map_snocI acc _) optN rfl ?_
    refine mv ?_
    refine ma ?_
    refine ma ?_
    refine ⟨_, _, rfl, hG, ?_⟩
    refine blockA_n (thenA_n ?_)
    refine AWP.region (fun _ => ?_)
    first | refine ρb ?_ | refine ρl ?_
    refine mv ?_
    refine ⟨_, _, rfl, hG, ?_⟩
    refine thenA_n ⟨rfl, (k + 1, g + 1, (getN (bl s) to).2.1, acc ++ [(getN (bl s) to).1]), _, ?_, ?_, rfl, ?_⟩
    · exact ⟨by dsimp only; omega, by simp [hal], hu⟩
    · repeat (first | exact .nil | refine .cons rfl ?_)
    dsimp only; omega
  simp at h2
  have hkk : (getN (bl s) p).1.toNat - k = 0 := by omega
  rw [hkk] at hu
  refine AWP.exit ?_
  refine thenA_x ?_
  refine thenA_x ?_
  refine blockA_h ?_
  refine thenA_n ?_
  refine sr fun _ => ?_
  refine mv ?_
  refine mv ?_
  refine ma ?_
  refine ma ?_
  refine mz ?_
  refine AWP.frzOwn 6 hG rfl rfl (by decide) (by simp [maxLen]; omega) rfl ?_
  refine AWP.ret ?_
  refine ρf (rs := [.tmp 6, .tmp 7, .tmp 8]) (.cons (.tmp rfl) (.cons (.tmp rfl) (.cons (.tmp rfl) .nil))) ?_
  rw [hdef, ← hu]; rfl
set_option maxHeartbeats 1000000 in
theorem unrowR_fn (s : ByteArray) (p top : Int) (hs : s.size ≤ 1000000) : FnP Tryz.prog 126 [.str s, .int .i64 p, .int .i64 top] (.tup [.sl ((unrowN (bl s) p top).1.map (AV.int .i64)), .int .i64 (unrowN (bl s) p top).2.1, .int .i64 (unrowN (bl s) p top).2.2]) := by
  have hbd := getN_bd (bl s) p (by rw [bl_len]; exact hs)
  have hdef : unrowN (bl s) p top = (if (getN (bl s) p).2.2 ≠ 0 then (([], 0, (getN (bl s) p).2.2) : List Int × Int × Int) else if (getN (bl s) p).1 > 1000 ∨ ((getN (bl s) p).1 > top ∧ (getN (bl s) p).1 > 0) then ([], 0, 3) else unrowF (bl s) (getN (bl s) p).1.toNat (getN (bl s) p).2.1 []) := rfl
  refine FnP.of Tryz.func126 rfl rfl (by simp) (by simp [AV.cells]) (fun G hG => ?_)
  have hN : NoH G.length (.tup [.sl ((unrowN (bl s) p top).1.map (AV.int .i64)), .int .i64 (unrowN (bl s) p top).2.1, .int .i64 (unrowN (bl s) p top).2.2]) := (by simp [AV.cells])
  refine sr fun _ => ?_
  refine ma ?_
  refine ma ?_
  refine mz ?_
  refine sr fun _ => ?_
  refine mv ?_
  refine mv ?_
  refine ρg cf124 (fun hg => getR_fn s p hs) ?_
  refine mv ?_
  refine ρ6 ?_
  refine ρ6 ?_
  refine ρ6 ?_
  refine ma ?_
  refine ma ?_
  refine mz ?_
  refine AWP.seq ?_
  refine sr fun _ => ?_
  refine mv ?_
  refine ρ2 ?_
  refine ez ?_
  refine ρp (fun h0 => ?_) (fun h0 => ?_)
  · have h0' : (getN (bl s) p).2.2 ≠ 0 := by simpa using h0
    refine sr fun _ => ?_
    refine mv ?_
    refine ma ?_
    refine ma ?_
    refine mz ?_
    refine AWP.ret (thenA_r ?_)
    refine ρf (rs := [.tmp 6, .tmp 7, .tmp 8]) (.cons (.tmp rfl) (.cons (.tmp rfl) (.cons (.tmp rfl) .nil))) ?_
    rw [hdef, if_pos h0']; rfl
  simp at h0
  have hlen : (getN (bl s) p).1.toNat ≤ (getN (bl s) p).1.toNat := Nat.le_refl _
  rw [if_neg (by simp [h0])] at hdef
  refine AWP.skip (thenA_n (AWP.seq ?_))
  refine sr fun _ => ?_
  refine mv ?_
  refine ρ2 ?_
  refine mv ?_
  refine ρk ?_
  refine ρk ?_
  refine ρu ?_
  refine ARun.move (.inl rfl) rfl rfl rfl (Ev.opt rfl (fun h => h)) optS ?_
  refine ρk ?_
  refine ρ9 ?_
  refine ARun.pick rfl rfl rfl rfl (Ev.opt rfl (fun h => h)) (Ev.opt rfl (by first | exact pkT | exact pkT2 | simp +contextual)) (ep rfl) (andB _ _) optS ?_
  refine ρ3 ?_
  refine ez ?_
  refine ρp (fun h1 => ?_) (fun h1 => ?_)
  · have h1' : (getN (bl s) p).1 > 1000 ∨ ((getN (bl s) p).1 > top ∧ (getN (bl s) p).1 > 0) := by simp at h1; omega
    rw [if_pos h1'] at hdef
    refine sr fun _ => ?_
    refine ma ?_
    refine ma ?_
    refine mz ?_
    refine AWP.ret (thenA_r ?_)
    refine ρf (rs := [.tmp 6, .tmp 7, .tmp 8]) (.cons (.tmp rfl) (.cons (.tmp rfl) (.cons (.tmp rfl) .nil))) ?_
    rw [hdef]; rfl
  have h1' : ¬ ((getN (bl s) p).1 > 1000 ∨ ((getN (bl s) p).1 > top ∧ (getN (bl s) p).1 > 0)) := by simp at h1; omega
  rw [if_neg h1'] at hdef
  refine AWP.skip (thenA_n ?_)
  refine sr fun _ => ?_
  refine ARun.nilOwn (e := 3) (z := 1) (j := 0) hG rfl ⟨.inl rfl, rfl⟩ (fun _ => rfl) rfl rfl rfl optN ?_
  refine ez ?_
  refine AWP.seq ?_
  refine sr fun _ => ?_
  refine mz ?_
  refine AWP.block ?_
  refine AWP.rounds (fun st => st.1 ≤ (getN (bl s) p).1.toNat ∧ st.2.2.2.length = st.1 ∧ unrowF (bl s) ((getN (bl s) p).1.toNat - st.1) st.2.2.1 st.2.2.2 = unrowF (bl s) (getN (bl s) p).1.toNat (getN (bl s) p).2.1 []) (fun st => [(0, .str s), (12, .own (G.length + 0) st.2.1), (10, .int .i64 st.2.2.1), (9, .int .i64 (getN (bl s) p).1), (13, .int .i64 (st.1 : Int))]) (fun st => [.row st.2.1 3 1 (st.2.2.2.map (AV.int .i64))]) (fun st => (getN (bl s) p).1.toNat - st.1) 1 ((0, 0, (getN (bl s) p).2.1, []) : Nat × Nat × Int × List Int) ⟨Nat.zero_le _, rfl, rfl⟩ (by repeat (first | exact .nil | refine .cons rfl ?_)) rfl (fun _ => rfl) (fun _ => ⟨by simp [AV.cells], by simp [AO.conts, AV.cells]; rintro y a _ rfl; simp⟩) (fun st hI => ?_)
  obtain ⟨k, g, to, acc⟩ := st
  dsimp only at hI
  show AWP _ _ _ _ _ [(0, .str s), (12, .own (G.length + 0) g), (10, .int .i64 to), (9, .int .i64 (getN (bl s) p).1), (13, .int .i64 (k : Int))] _ [.row g 3 1 (acc.map (AV.int .i64))]
  obtain ⟨hk, hal, hu⟩ := hI
  refine AWP.seq ?_
  refine sr fun _ => ?_
  refine mv ?_
  refine mv ?_
  refine ρ2 ?_
  refine ez ?_
  refine ρp (fun h2 => ?_) (fun h2 => ?_)
  · simp at h2
    refine AWP.skip (thenA_n ?_)
    refine AWP.seq (AWP.block ?_)
    refine sr fun _ => ?_
    refine mv ?_
    refine mv ?_
    refine ρg cf124 (fun hg => getR_fn s to hs) ?_
    refine mv ?_
    refine ρ6 ?_
    refine ρ6 ?_
    refine ρ6 ?_
    refine ma ?_
    refine ma ?_
    refine mz ?_
    refine AWP.seq ?_
    refine sr fun _ => ?_
    refine mv ?_
    refine ρ2 ?_
    refine ez ?_
    refine ρp (fun h3 => ?_) (fun h3 => ?_)
    · have h3' : (getN (bl s) to).2.2 ≠ 0 := by simpa using h3
      rw [show (getN (bl s) p).1.toNat - k = ((getN (bl s) p).1.toNat - (k + 1)) + 1 by omega, unrow_step, if_pos h3'] at hu
      refine sr fun _ => ?_
      refine mv ?_
      refine ma ?_
      refine ma ?_
      refine mz ?_
      refine AWP.ret (thenA_r ?_)
      refine blockA_r (thenA_r ?_)
      refine thenA_r (blockA_r (thenA_r ?_))
      refine ρf (rs := [.tmp 6, .tmp 7, .tmp 8]) (.cons (.tmp rfl) (.cons (.tmp rfl) (.cons (.tmp rfl) .nil))) ?_
      rw [hdef, ← hu]; rfl
    simp at h3
    rw [show (getN (bl s) p).1.toNat - k = ((getN (bl s) p).1.toNat - (k + 1)) + 1 by omega, unrow_step, if_neg (by simp [h3])] at hu
    refine AWP.skip (thenA_n ?_)
    refine sr fun _ => ?_
    refine mv ?_
    refine mv ?_
    refine ρA U29 sz3 zv3 ?_
    refine ARun.appendL hG rfl rfl rfl rfl U29 ti3 rfl (by decide) (ep rfl) (ep rfl) rfl rfl (by simp [maxLen]; omega) (by simp; omega) (map_snocI acc _) optN rfl ?_
    refine mz ?_
    refine AWP.region (fun _ => ?_)
    refine mv ?_
    refine ma ?_
    refine ⟨_, _, rfl, hG, ?_⟩
    refine blockA_n (thenA_n ?_)
    refine AWP.region (fun _ => ?_)
    refine mv ?_
    first | refine ρb ?_ | refine ρl ?_
    refine ma ?_
    refine ⟨_, _, rfl, hG, ?_⟩
    refine thenA_n ⟨rfl, (k + 1, g + 1, (getN (bl s) to).2.1, acc ++ [(getN (bl s) to).1]), _, ?_, ?_, rfl, ?_⟩
    · exact ⟨by dsimp only; omega, by simp [hal], hu⟩
    · repeat (first | exact .nil | refine .cons rfl ?_)
    dsimp only; omega
  simp at h2
  have hkk : (getN (bl s) p).1.toNat - k = 0 := by omega
  rw [hkk] at hu
  refine AWP.exit ?_
  refine thenA_x ?_
  refine thenA_x ?_
  refine blockA_h ?_
  refine thenA_n ?_
  refine sr fun _ => ?_
  refine mv ?_
  refine mv ?_
  refine ma ?_
  refine ma ?_
  refine mz ?_
  refine AWP.frzOwn 6 hG rfl rfl (by decide) (by simp [maxLen]; omega) rfl ?_
  refine AWP.ret ?_
  refine ρf (rs := [.tmp 6, .tmp 7, .tmp 8]) (.cons (.tmp rfl) (.cons (.tmp rfl) (.cons (.tmp rfl) .nil))) ?_
  rw [hdef, ← hu]; rfl
set_option maxHeartbeats 1000000 in
theorem rowR_fn (l : List Int) (hl : l.length ≤ 10000) (hf : ∀ x, x ∈ l → -9223372036854775808 ≤ x ∧ x ≤ 9223372036854775807) : FnP Tryz.prog 150 [.sl (l.map (AV.int .i64))] (.tup [.str (bs (rowN l).1), .int .i64 (rowN l).2]) := by
  have hp0 : FnP Tryz.prog 152 [.int .i64 ((l.map (AV.int .i64)).length : Int)] (.tup [.str (bs (putN (l.length : Int)).1), .int .i64 (putN (l.length : Int)).2]) := by rw [List.length_map]; exact putR_fn l.length (by omega)
  refine FnP.of Tryz.func150 rfl rfl (by simp) (by simp [AV.cells]) (fun G hG => ?_)
  have hN : NoH G.length (.tup [.str (bs (rowN l).1), .int .i64 (rowN l).2]) := (by simp [AV.cells])
  refine sr fun _ => ?_
  refine ma ?_
  refine mz ?_
  refine sr fun _ => ?_
  refine mv ?_
  refine ρv U29 ?_
  refine ρm cf152 (fun hg => hp0) ?_
  refine mv ?_
  refine ρ6 ?_
  refine ρ6 ?_
  refine ma ?_
  refine mz ?_
  refine AWP.seq ?_
  refine sr fun _ => ?_
  refine mz ?_
  refine AWP.block ?_
  refine AWP.rounds (fun k => k ≤ l.length ∧ (rowS l k).2 = 0) (fun k => [(0, .sl (l.map (AV.int .i64))), (4, .str (bs (rowS l k).1)), (6, .int .i64 (k : Int))]) (fun k => []) (fun k => l.length - k) 0 0 ⟨Nat.zero_le _, rfl⟩ (by repeat (first | exact .nil | refine .cons rfl ?_)) rfl (fun _ => rfl) (fun _ => ⟨by simp [AV.cells], by simp⟩) (fun k hI => ?_)
  obtain ⟨hk, ha⟩ := hI
  have hal := rowS_len l k
  refine AWP.seq ?_
  refine sr fun _ => ?_
  refine mv ?_
  refine mv ?_
  refine ρv U29 ?_
  refine ρ2 ?_
  refine ez ?_
  refine ρp (fun h0 => ?_) (fun h0 => ?_)
  · try simp [-List.getD_eq_getElem?_getD] at h0
    refine AWP.skip (thenA_n ?_)
    refine AWP.seq (AWP.block ?_)
    refine sr fun _ => ?_
    refine mv ?_
    refine mv ?_
    first | refine ρe U29 sz3 ?_ | refine ρ7 U29 sz3 ?_
    refine ρa U3 ?_
    refine ρz cf152 ?_ (hF := fun hg => putR_fn _ (fit_at hf (by simpa using h0)))
    refine mv ?_
    refine ρ6 ?_
    refine ρ6 ?_
    refine ma ?_
    refine mz ?_
    refine AWP.seq ?_
    refine sr fun _ => ?_
    refine mv ?_
    refine ρ2 ?_
    refine ez ?_
    refine ρp (fun h1 => ?_) (fun h1 => ?_)
    · try simp [-List.getD_eq_getElem?_getD] at h1
      refine sr fun _ => ?_
      refine mv ?_
      refine ma ?_
      refine mz ?_
      refine AWP.ret (thenA_r ?_)
      refine blockA_r (thenA_r ?_)
      refine thenA_r (blockA_r (thenA_r ?_))
      refine ρf (rs := [.tmp 2, .tmp 3]) (.cons (.tmp rfl) (.cons (.tmp rfl) .nil)) ?_
      have h1' : ¬ (putN (l.getD k default)).2 = 0 := h1
      rw [putN_err] at h1' ⊢
      have hlt : ¬ 0 ≤ l.getD k default := by intro h; rw [if_pos h] at h1'; exact h1' rfl
      have hn : nneg l = false := by
        unfold nneg; rw [List.all_eq_false]
        refine ⟨l[k], List.getElem_mem (by omega), ?_⟩
        simp [List.getD, show k < l.length by omega] at hlt
        simp; omega
      rw [if_neg hlt, rowN, if_neg (by simp [hn])]; rfl
    try simp [-List.getD_eq_getElem?_getD] at h1
    refine AWP.skip (thenA_n ?_)
    refine AWP.region (fun _ => ?_)
    refine mv ?_
    refine mv ?_
    refine ARun.cat rfl rfl rfl rfl (ep rfl) (ep rfl) (fun hg => (by simp only [bs_size]; have := putN_len (l.getD k default); omega)) optN ?_
    refine ma ?_
    refine ⟨_, _, rfl, hG, ?_⟩
    refine blockA_n (thenA_n ?_)
    refine AWP.region (fun _ => ?_)
    refine mv ?_
    first | refine ρb ?_ | refine ρl ?_
    refine ma ?_
    refine ⟨_, _, rfl, hG, ?_⟩
    refine thenA_n ⟨rfl, k + 1, _, ?_, ?_, rfl, ?_⟩
    · refine ⟨by omega, ?_⟩
      rw [rowS_succ l k (by omega), rowStep, if_pos ha]; exact h1
    · rw [show (rowS l (k + 1)).1 = (rowS l k).1 ++ (putN (l.getD k default)).1 by rw [rowS_succ l k (by omega), rowStep, if_pos ha], ← bs_append]
      repeat (first | exact .nil | refine .cons rfl ?_)
    omega
  simp at h0
  obtain rfl : k = l.length := by omega
  have hall := rowS_all l
  rw [if_pos ha] at hall
  refine AWP.exit ?_
  refine thenA_x ?_
  refine thenA_x ?_
  refine blockA_h ?_
  refine thenA_n ?_
  refine sr fun _ => ?_
  refine mv ?_
  refine ma ?_
  refine mz ?_
  refine AWP.ret ?_
  refine ρf (rs := [.tmp 2, .tmp 3]) (.cons (.tmp rfl) (.cons (.tmp rfl) .nil)) ?_
  rw [← hall]; rfl
end Go.Proofs.YtgebpndhnkkbgaaGreatDoor
namespace Go.Proofs.YtgebpndhnkkbgaaGreatDoor
set_option linter.unusedVariables false
set_option linter.unusedSimpArgs false
open NumP
set_option linter.unusedVariables false
set_option linter.unusedSimpArgs false
structure Pc where
  kind : Int
  n : Int
  s : ByteArray
  l : List Int
instance : Inhabited Pc := ⟨⟨0, 0, ⟨#[]⟩, []⟩⟩
theorem unrowF_len (l : List UInt8) (k : Nat) : ∀ (to : Int) (acc : List Int), (unrowF l k to acc).1.length ≤ acc.length + k := by
  induction k with
  | zero => intro to acc; exact Nat.le_refl _
  | succ k ih =>
    intro to acc
    rw [unrow_step]
    split
    · simp
    · have := ih (getN l to).2.1 (acc ++ [(getN l to).1]); simp at this; omega
theorem unrowN_len (l : List UInt8) (p top : Int) : (unrowN l p top).1.length ≤ 1000 := by
  unfold unrowN
  split
  · exact Nat.zero_le _
  · split
    · exact Nat.zero_le _
    · have := unrowF_len l (getN l p).1.toNat (getN l p).2.1 []
      simp at this; omega
theorem rdRow_len (r : RdS) (most : Int) : (rdRow r most).2.length ≤ 1000 := by
  unfold rdRow
  split
  · exact Nat.zero_le _
  · exact unrowN_len _ _ _
end Go.Proofs.YtgebpndhnkkbgaaGreatDoor
namespace Go.Proofs.YtgebpndhnkkbgaaGreatDoor
set_option linter.unusedVariables false
set_option linter.unusedSimpArgs false
open Go.RowKit
open NumP
set_option maxRecDepth 100000
def aW (w : WrS) : List AV := [.adr 172, .buf 5 (bs w.s), aEr (errOf tWrite w.p w.e)]
def aRd (r : RdS) : List AV := [.str r.s, .int .i64 r.at_, aEr (errOf tRead r.p r.e), .bool true]
def aIn (r : RdS) : AV := .agg [.str r.s, .int .i64 r.at_, .str r.p, .int .i64 r.e]
def aOut (w : WrS) : AV := .agg [.str w.out, .str w.p, .int .i64 w.e]
theorem noH_aW (m : Nat) (w : WrS) : ∀ x, x ∈ aW w → NoH m x := by simp [aW]
theorem noH_aRd (m : Nat) (r : RdS) : ∀ x, x ∈ aRd r → NoH m x := by simp [aRd]
theorem liesW : liesAt Tryz.prog Tryz.prog.depth 172 (3 / Tryz.prog.cellsOf 172) 0 170 1 = true := by kernel_rfl
theorem writeW (w : WrS) (s : ByteArray) (h : w.s.length + s.size ≤ 100000000) : FnM Tryz.prog 159 (fun i => [.box i 0, .str s]) (aW w) (.tup [.int .i64 s.size, .raw .nilIface]) [.adr 172, .buf 5 (bs w.s ++ s), aEr (errOf tWrite w.p w.e)] :=
  bld_write (n := 3) liesW (by decide) (bs w.s) s [aEr (errOf tWrite w.p w.e)] rfl (by rw [bs_size]; omega)
theorem plain_aEr (e : Er) : (aEr e).plainC = true := by cases e <;> rfl
theorem out_len (w : WrS) : w.out.size ≤ w.s.length := by
  unfold WrS.out; split
  · exact Nat.le_refl _
  exact Nat.zero_le _
theorem unrowF_bad (l : List UInt8) (k : Nat) : ∀ (to : Int) (acc : List Int), (unrowF l k to acc).2.2 ≠ 0 → (unrowF l k to acc).1 = [] := by
  induction k with
  | zero => intro to acc h; exact absurd rfl h
  | succ k ih =>
    intro to acc h
    rw [unrow_step] at h ⊢
    split
    · rfl
    rename_i h1; rw [if_neg h1] at h; exact ih _ _ h
theorem unrow_bad {l : List UInt8} {p top : Int} (h : (unrowN l p top).2.2 ≠ 0) : (unrowN l p top).1 = [] := by
  unfold unrowN at h ⊢
  split
  · rfl
  rename_i h1
  rw [if_neg h1] at h
  split
  · rfl
  rename_i h2; rw [if_neg h2] at h; exact unrowF_bad _ _ _ _ h
theorem moved_pos {r : RdS} {p : ByteArray} {to e : Int} (h : e ≠ 0) : r.moved p to e = { r with p := p, e := e } := if_pos h
theorem moved_neg {r : RdS} {p : ByteArray} {to e : Int} (h : e = 0) : r.moved p to e = { r with at_ := to } := if_neg (by simpa using h)
set_option maxHeartbeats 1000000 in
theorem put_w (w : WrS) (p : ByteArray) (u : List UInt8) (s : ByteArray) (hs : s = bs u) (e : Int) (hl : w.s.length + u.length ≤ 10000000) : FnM Tryz.prog 145 (fun i => [.box i 0, .str p, .str s, .int .i64 e]) (aW w) (.tup []) (aW (wrPut w p u e)) := by
  subst hs
  refine FnM.of Tryz.func145 rfl rfl (fun i => by simp) (fun H i m hHm hi hG => ?_)
  have hN : NoH H.length (.tup []) := (by simp [AV.cells, aIn, aOut])
  refine AWP.seq ?_
  refine sr fun _ => ?_
  refine mv ?_
  refine ARun.isNilBox rfl rfl rfl rfl U211 (ep rfl) (atO hi) (.inl ⟨rfl, rfl⟩) optN ?_
  refine mv ?_
  refine ρk ?_
  first | refine ARun.nilPe rfl rfl rfl rfl (Ev.opt rfl (fun h => h)) optS ?_ | refine ARun.nilFn rfl rfl rfl rfl (Ev.opt rfl (fun h => h)) optS ?_ | refine ARun.nilBox rfl rfl rfl rfl (Ev.opt rfl (fun h => h)) (atO hi) optS ?_
  refine ARun.fieldBox (fo := 2) rfl rfl rfl rfl U172 rfl rfl sz53 (by decide) (Ev.opt rfl (fun h => h)) (atO hi) optS ?_
  refine ARun.loadBox rfl rfl rfl rfl U53 rfl (Ev.opt rfl (fun h => h)) (atO hi) rfl optS ?_
  refine ARun.isNil rfl rfl rfl rfl U53 (Ev.opt rfl (fun h => h)) (fun hg => by first | rfl | exact nilA_aEr _) (.inr ⟨rfl, rfl⟩) optS ?_
  refine ρ3 ?_
  refine ez ?_
  refine ρp (fun h0 => ?_) (fun h0 => ?_)
  · have hw : w.e ≠ 0 := by simpa [errOf_none] using h0
    refine AWP.ret (thenA_r ?_)
    refine endF.toG (congrArg (fun c => H.set i (AO.box c)) (by rw [wrPut, if_pos hw])) ?_
    refine endF.many (.inr rfl) (rs := []) rfl .nil (by simp) ?_ (by rw [List.length_set]; exact hN)
    rfl
  have hw : w.e = 0 := by simpa [errOf_none] using h0
  refine AWP.skip (thenA_n (AWP.seq ?_))
  refine sr fun _ => ?_
  refine mv ?_
  refine ρ2 ?_
  refine ez ?_
  refine ρp (fun h1 => ?_) (fun h1 => ?_)
  · have he : e ≠ 0 := by simpa using h1
    refine sr fun _ => ?_
    refine mv ?_
    refine mv ?_
    refine mv ?_
    refine ρg cf62 (fun hg => new_fn p e) ?_
    refine ρg cf61 (fun hg => wrap_fn tWrite (Er.new p e)) ?_
    first | refine ARun.nilPe rfl rfl rfl rfl (ep rfl) optN ?_ | refine ARun.nilFn rfl rfl rfl rfl (ep rfl) optN ?_ | refine ARun.nilBox rfl rfl rfl rfl (ep rfl) (atO hi) optN ?_
    refine ARun.fieldBox (fo := 2) rfl rfl rfl rfl U172 rfl rfl sz53 (by decide) (ep rfl) (atO hi) optN ?_
    refine ARun.storeO1 hi hG rfl rfl rfl sz53 (ep rfl) (ep rfl) (by first | rfl | exact aEr_one _ | exact aFl_one _) (Nat.le_of_ble_eq_true rfl) rfl (by first | exact noH_aW _ _ | (simp; done) | (simp [cAV]; done)) (fun hG => ?_) (hsp := (by simp [aW, plain_aEr]))
    refine ez ?_
    refine AWP.ret (thenA_r ?_)
    refine endF.toG (congrArg (fun c => H.set i (AO.box c)) (by rw [wrPut, if_neg (by omega), if_pos he]; exact congrArg (fun x => [AV.adr _, .buf _ (bs w.s), aEr x]) (errOf_mk tWrite p e))) ?_
    refine endF.many (.inr rfl) (rs := []) rfl .nil (by simp) ?_ (by rw [List.length_set]; exact hN)
    rfl
  have he : e = 0 := by simpa using h1
  refine AWP.skip (thenA_n ?_)
  refine AWP.region (fun _ => ?_)
  refine mv ?_
  first | refine ARun.nilPe rfl rfl rfl rfl (ep rfl) optN ?_ | refine ARun.nilFn rfl rfl rfl rfl (ep rfl) optN ?_ | refine ARun.nilBox rfl rfl rfl rfl (ep rfl) (atO hi) optN ?_
  refine ARun.fieldBox (fo := 0) rfl rfl rfl rfl U172 rfl rfl sz170 (by decide) (ep rfl) (atO hi) optN ?_
  refine mv ?_
  refine ARun.callO hi hG rfl rfl rfl rfl cf159 (ep rfl) (.cons (ep rfl) (.cons (ep rfl) .nil)) rfl (writeW w (bs u) (by rw [bs_size]; omega) _ _ (atO hi)) (by first | exact noH_aW _ _ | (simp; done) | (simp [cAV]; done)) optN (fun hG => ?_)
  refine ⟨_, _, rfl, hG, ?_⟩
  refine endF.toG (congrArg (fun c => H.set i (AO.box c)) (by rw [wrPut, if_neg (by omega), if_neg (by omega), bs_append]; rfl)) ?_
  refine endF.many (.inl rfl) (rs := []) rfl .nil (by simp) ?_ (by rw [List.length_set]; exact hN)
  rfl
-- numbers
set_option maxHeartbeats 1000000 in
theorem nums_w (w : WrS) (l : List Int) (hll : l.length ≤ 1000) (hl : w.s.length ≤ 1000000) (hf : ∀ x, x ∈ l → -9223372036854775808 ≤ x ∧ x ≤ 9223372036854775807) : FnM Tryz.prog 116 (fun i => [.box i 0, .sl (l.map (AV.int .i64))]) (aW w) (.tup []) (aW (wrNums w l)) := by
  refine FnM.of Tryz.func116 rfl rfl (fun i => by simp) (fun H i m hHm hi hG => ?_)
  have hN : NoH H.length (.tup []) := (by simp [AV.cells, aIn, aOut])
  refine sr fun _ => ?_
  refine mv ?_
  refine ARun.makeFunc rfl rfl rfl rfl (.cons (ep rfl) .nil) .nil optN ?_
  refine mz ?_
  refine sr fun _ => ?_
  refine mv ?_
  refine ρv U29 ?_
  refine mv ?_
  refine ez ?_
  refine AWP.block ?_
  refine AWP.roundsO (fun k => k ≤ l.length) (fun k => [(1, .sl (l.map (AV.int .i64))), (4, .fn (.func 145) [.box i 0] []), (11, .sl (l.map (AV.int .i64))), (12, .int .i64 ((l.map (AV.int .i64)).length : Int)), (13, .int .i64 (k : Int))]) (fun k => H.set i (.box (aW (wrNums w (l.take k))))) (fun k => []) (fun k => l.length - k) 0 0 (Nat.zero_le _) (by repeat (first | exact .nil | refine .cons rfl ?_)) rfl rfl (fun _ => rfl) (fun _ => ⟨by simp [AV.cells]; omega, by simp⟩) (fun k hI hG => ?_)
  show AWP _ _ _ _ _ [(1, .sl (l.map (AV.int .i64))), (4, .fn (.func 145) [.box i 0] []), (11, .sl (l.map (AV.int .i64))), (12, .int .i64 ((l.map (AV.int .i64)).length : Int)), (13, .int .i64 (k : Int))] (H.set i (.box (aW (wrNums w (l.take k))))) []
  replace hG : GOK _ (H.set i (.box (aW (wrNums w (l.take k))))) := hG
  have hwl := wrNums_len (l.take k) w
  have htl : (l.take k).length ≤ k := by rw [List.length_take]; omega
  refine sr fun _ => ?_
  refine ρ2 ?_
  refine ez ?_
  refine AWP.seq ?_
  refine ρp (fun h0 => ?_) (fun h0 => ?_)
  · try simp [-List.getD_eq_getElem?_getD] at h0
    refine AWP.skip (thenA_n ?_)
    refine AWP.seq (AWP.block ?_)
    refine sr fun _ => ?_
    first | refine ρe U29 sz3 ?_ | refine ρ7 U29 sz3 ?_
    refine ρa U3 ?_
    refine mz ?_
    refine sr fun _ => ?_
    refine mv ?_
    refine ρz cf146 ?_ (hF := fun hg => put_fn _ (fit_at hf (by simpa using h0)))
    refine mv ?_
    refine ρ6 ?_
    refine ρ6 ?_
    refine ma ?_
    refine mz ?_
    refine AWP.region (fun _ => ?_)
    refine mv ?_
    refine mv ?_
    refine mv ?_
    refine ARun.callO hi hG rfl rfl rfl rfl cf145 (ep rfl) (.cons (ep rfl) (.cons (ep rfl) (.cons (ep rfl) .nil))) rfl (put_w (wrNums w (l.take k)) tNum (putN (l.getD k default)).1 _ rfl (putN (l.getD k default)).2 (by have := putN_len (l.getD k default); omega) _ _ (atO hi)) (by first | exact noH_aW _ _ | (simp; done) | (simp [cAV]; done)) optN (fun hG => ?_)
    refine ⟨_, _, rfl, hG, ?_⟩
    refine blockA_n (thenA_n ?_)
    refine AWP.region (fun _ => ?_)
    first | refine ρb ?_ | refine ρl ?_
    refine mv ?_
    refine ⟨_, _, rfl, hG, ?_⟩
    refine thenA_n ⟨k + 1, _, ?_, ?_, ?_, rfl, ?_⟩
    · rw [wrNums_succ w l k (by simpa using h0)]; rfl
    · omega
    · repeat (first | exact .nil | refine .cons rfl ?_)
    omega
  simp at h0
  obtain rfl : k = l.length := by omega
  rw [List.take_length]
  refine AWP.exit ?_
  refine thenA_x ?_
  refine thenA_x ?_
  refine blockA_h ?_
  refine endF.toG (congrArg (fun c => H.set i (AO.box c)) rfl) ?_
  refine endF.many (.inl rfl) (rs := []) rfl .nil (by simp) ?_ (by rw [List.length_set]; exact hN)
  rfl
set_option maxHeartbeats 1000000 in
theorem row_w (w : WrS) (l : List Int) (hll : l.length ≤ 10000) (hl : w.s.length ≤ 1000000) (hf : ∀ x, x ∈ l → -9223372036854775808 ≤ x ∧ x ≤ 9223372036854775807) : FnM Tryz.prog 117 (fun i => [.box i 0, .sl (l.map (AV.int .i64))]) (aW w) (.tup []) (aW (wrRow w l)) := by
  have hrl := rowN_len l
  refine FnM.of Tryz.func117 rfl rfl (fun i => by simp) (fun H i m hHm hi hG => ?_)
  have hN : NoH H.length (.tup []) := (by simp [AV.cells, aIn, aOut])
  refine sr fun _ => ?_
  refine mv ?_
  refine ρm cf147 (fun hg => rowN_fn l hll hf) ?_
  refine mv ?_
  refine ρ6 ?_
  refine ρ6 ?_
  refine ma ?_
  refine mz ?_
  refine AWP.region (fun _ => ?_)
  refine mv ?_
  refine mv ?_
  refine mv ?_
  refine ARun.callO hi hG rfl rfl rfl rfl cf145 (ep rfl) (.cons (ep rfl) (.cons (ep rfl) (.cons (ep rfl) (.cons (ep rfl) .nil)))) rfl (put_w w tRow (rowN l).1 _ rfl (rowN l).2 (by omega) _ _ (atO hi)) (by first | exact noH_aW _ _ | (simp; done) | (simp [cAV]; done)) optN (fun hG => ?_)
  refine ⟨_, _, rfl, hG, ?_⟩
  refine endF.toG (congrArg (fun c => H.set i (AO.box c)) rfl) ?_
  refine endF.many (.inl rfl) (rs := []) rfl .nil (by simp) ?_ (by rw [List.length_set]; exact hN)
  rfl
set_option maxHeartbeats 1000000 in
theorem done_ok (w : WrS) (h : w.e = 0) : FnK Tryz.prog 118 (fun i => [.box i 0]) (aW w) (.tup [.str w.out, .raw .nilIface]) := by
  refine FnK.of Tryz.func118 rfl rfl (fun i => by simp) (fun H i m hHm hi hG => ?_)
  have hN : NoH H.length (.tup [.str w.out, .raw .nilIface]) := (by simp [AV.cells, aIn, aOut])
  refine sr fun _ => ?_
  refine ma ?_
  refine mz ?_
  refine AWP.seq ?_
  refine sr fun _ => ?_
  refine mv ?_
  refine ARun.isNilBox rfl rfl rfl rfl U211 (ep rfl) (atO hi) (.inl ⟨rfl, rfl⟩) optN ?_
  refine ez ?_
  refine ρp (fun h0 => ?_) (fun h0 => ?_)
  · simp at h0
  refine AWP.skip (thenA_n (AWP.seq ?_))
  refine sr fun _ => ?_
  refine mv ?_
  first | refine ARun.nilPe rfl rfl rfl rfl (ep rfl) optN ?_ | refine ARun.nilFn rfl rfl rfl rfl (ep rfl) optN ?_ | refine ARun.nilBox rfl rfl rfl rfl (ep rfl) (atO hi) optN ?_
  refine ARun.fieldBox (fo := 2) rfl rfl rfl rfl U172 rfl rfl sz53 (by decide) (ep rfl) (atO hi) optN ?_
  refine ARun.loadBox rfl rfl rfl rfl U53 rfl (ep rfl) (atO hi) rfl optN ?_
  refine ARun.isNil rfl rfl rfl rfl U53 (ep rfl) (fun hg => by first | rfl | exact nilA_aEr _) (.inr ⟨rfl, rfl⟩) optN ?_
  refine ez ?_
  refine ρp (fun h1 => ?_) (fun h1 => ?_)
  · simp [errOf_none, h] at h1
  refine AWP.skip (thenA_n ?_)
  refine sr fun _ => ?_
  refine mv ?_
  first | refine ARun.nilPe rfl rfl rfl rfl (ep rfl) optN ?_ | refine ARun.nilFn rfl rfl rfl rfl (ep rfl) optN ?_ | refine ARun.nilBox rfl rfl rfl rfl (ep rfl) (atO hi) optN ?_
  refine ARun.fieldBox (fo := 0) rfl rfl rfl rfl U172 rfl rfl sz170 (by decide) (ep rfl) (atO hi) optN ?_
  refine ARun.callK hi hG rfl rfl rfl rfl cf148 (ep rfl) (.cons (ep rfl) .nil) rfl (bld_string (T := 172) (n := 3) (bs w.s) [aEr (errOf tWrite w.p w.e)] _ _ (atO hi)) optN (fun hG => ?_)
  refine ma ?_
  refine mz ?_
  refine AWP.ret ?_
  refine endF.many (.inr rfl) (rs := [.tmp 2, .tmp 3]) rfl (.cons (.tmp rfl) (.cons (.tmp rfl) .nil)) (by simp) ?_ (by rw [List.length_set]; exact hN)
  rw [WrS.out, if_pos h]; rfl
set_option maxHeartbeats 1000000 in
theorem done_bad (w : WrS) (h : w.e ≠ 0) : FnM Tryz.prog 118 (fun i => [.box i 0]) (aW w) (.tup [.str w.out, aEr (errOf tWrite w.p w.e)]) (aW w) := by
  refine FnM.of Tryz.func118 rfl rfl (fun i => by simp) (fun H i m hHm hi hG => ?_)
  have hN : NoH H.length (.tup [.str w.out, aEr (errOf tWrite w.p w.e)]) := (by simp [AV.cells, aIn, aOut])
  refine sr fun _ => ?_
  refine ma ?_
  refine mz ?_
  refine AWP.seq ?_
  refine sr fun _ => ?_
  refine mv ?_
  refine ARun.isNilBox rfl rfl rfl rfl U211 (ep rfl) (atO hi) (.inl ⟨rfl, rfl⟩) optN ?_
  refine ez ?_
  refine ρp (fun h0 => ?_) (fun h0 => ?_)
  · simp at h0
  refine AWP.skip (thenA_n (AWP.seq ?_))
  refine sr fun _ => ?_
  refine mv ?_
  first | refine ARun.nilPe rfl rfl rfl rfl (ep rfl) optN ?_ | refine ARun.nilFn rfl rfl rfl rfl (ep rfl) optN ?_ | refine ARun.nilBox rfl rfl rfl rfl (ep rfl) (atO hi) optN ?_
  refine ARun.fieldBox (fo := 2) rfl rfl rfl rfl U172 rfl rfl sz53 (by decide) (ep rfl) (atO hi) optN ?_
  refine ARun.loadBox rfl rfl rfl rfl U53 rfl (ep rfl) (atO hi) rfl optN ?_
  refine ARun.isNil rfl rfl rfl rfl U53 (ep rfl) (fun hg => by first | rfl | exact nilA_aEr _) (.inr ⟨rfl, rfl⟩) optN ?_
  refine ez ?_
  refine ρp (fun h1 => ?_) (fun h1 => ?_)
  · refine AWP.seq ?_
    refine AWP.draw mixed (by kernel_rfl) (fun _ => ?_)
    refine mv ?_
    first | refine ARun.nilPe rfl rfl rfl rfl (ep rfl) optN ?_ | refine ARun.nilFn rfl rfl rfl rfl (ep rfl) optN ?_ | refine ARun.nilBox rfl rfl rfl rfl (ep rfl) (atO hi) optN ?_
    refine ARun.fieldBox (fo := 2) rfl rfl rfl rfl U172 rfl rfl sz53 (by decide) (ep rfl) (atO hi) optN ?_
    refine ARun.loadBox rfl rfl rfl rfl U53 rfl (ep rfl) (atO hi) rfl optN ?_
    refine ma ?_
    refine ma ?_
    refine ⟨by kernel_rfl, _, _, rfl, hG, ?_⟩
    refine thenA_n (AWP.ret (thenA_r ?_))
    refine endF.toG (congrArg (fun c => H.set i (AO.box c)) rfl) ?_
    refine endF.many (.inr rfl) (rs := [.tmp 2, .tmp 3]) rfl (.cons (.tmp rfl) (.cons (.tmp rfl) .nil)) (by simp) ?_ (by rw [List.length_set]; exact hN)
    rw [WrS.out, if_neg h]; rfl
  simp [errOf_none, h] at h1
theorem done_w (w : WrS) : FnK Tryz.prog 118 (fun i => [.box i 0]) (aW w) (.tup [.str w.out, aEr (errOf tWrite w.p w.e)]) := by
  by_cases h : w.e = 0
  · rw [h, errOf_zero]; exact done_ok w h
  exact (done_bad w h).kill (by simp)
set_option maxHeartbeats 1000000 in
theorem newr_fn (s : ByteArray) : FnNewB Tryz.prog 56 [.str s] (fun i => .box i 0) (aRd (RdS.new s)) := by
  refine FnNewB.of Tryz.func56 rfl rfl (by simp) (fun G hG => ?_)
  refine sr fun _ => ?_
  refine mz ?_
  refine sr fun _ => ?_
  refine mv ?_
  refine ARun.build rfl rfl rfl rfl so139 (.cons (ep rfl) (.cons (ep rfl) .nil)) rfl rfl optN ?_
  refine ARun.box (j := 0) hG rfl rfl rfl rfl rfl (ep rfl) rfl rfl optN ?_
  refine mz ?_
  refine AWP.ret ?_
  refine endN.one (.inr rfl) rfl (.tmp rfl) ?_ (by first | exact noH_aRd _ _ | (simp; done)) (by first | exact noH_aRd _ _ | (simp; done))
  rfl
set_option maxHeartbeats 1000000 in
theorem goes_fn (r : RdS) : FnM Tryz.prog 93 (fun i => [.box i 0]) (aRd r) (.bool (decide (r.e = 0))) (aRd r) := by
  refine FnM.of Tryz.func93 rfl rfl (fun i => by simp) (fun H i m hHm hi hG => ?_)
  have hN : NoH H.length (.bool (decide (r.e = 0))) := (by simp [AV.cells, aIn, aOut])
  refine sr fun _ => ?_
  refine mz ?_
  refine sr fun _ => ?_
  refine ρo (j := 0) zv145 ?_
  refine ez ?_
  refine sr fun _ => ?_
  refine mv ?_
  refine ARun.isNilBox rfl rfl rfl rfl U100 (ep rfl) (atO hi) (.inr ⟨rfl, rfl⟩) optN ?_
  refine mv ?_
  refine ρk ?_
  first | refine ARun.nilPe rfl rfl rfl rfl (Ev.opt rfl (fun h => h)) optS ?_ | refine ARun.nilFn rfl rfl rfl rfl (Ev.opt rfl (fun h => h)) optS ?_ | refine ARun.nilBox rfl rfl rfl rfl (Ev.opt rfl (fun h => h)) (atO hi) optS ?_
  refine ARun.fieldBox (fo := 3) rfl rfl rfl rfl U139 rfl rfl sz4 (by decide) (Ev.opt rfl (fun h => h)) (atO hi) optS ?_
  refine ARun.loadBox rfl rfl rfl rfl U4 rfl (Ev.opt rfl (fun h => h)) (atO hi) rfl optS ?_
  refine ρ0 ?_
  refine mv ?_
  refine ρk ?_
  first | refine ARun.nilPe rfl rfl rfl rfl (Ev.opt rfl (fun h => h)) optS ?_ | refine ARun.nilFn rfl rfl rfl rfl (Ev.opt rfl (fun h => h)) optS ?_ | refine ARun.nilBox rfl rfl rfl rfl (Ev.opt rfl (fun h => h)) (atO hi) optS ?_
  refine ARun.fieldBox (fo := 2) rfl rfl rfl rfl U139 rfl rfl sz53 (by decide) (Ev.opt rfl (fun h => h)) (atO hi) optS ?_
  refine ARun.loadBox rfl rfl rfl rfl U53 rfl (Ev.opt rfl (fun h => h)) (atO hi) rfl optS ?_
  refine ARun.iface rfl rfl rfl rfl (by kernel_rfl) (ep rfl) optS ?_
  refine ARun.callSetG (j := 0) hG rfl rfl rfl rfl cf63 (ep rfl) (.cons (Ev.opt rfl (fun h => h)) (.cons (Ev.opt rfl (fun h => h)) .nil)) rfl (fun hg => As_F (errOf tRead r.p r.e) _ _ ((hG.at _ _).trans rfl)) (fun hg => by simp at hg) rfl optS ?_
  refine ARun.not rfl rfl rfl rfl (Ev.opt rfl (fun h => h)) optS ?_
  refine ρ0 ?_
  refine mz ?_
  refine AWP.ret ?_
  refine endF.toG (congrArg (fun c => H.set i (AO.box c)) rfl) ?_
  refine endF.one (.inr rfl) rfl (.tmp rfl) ?_ (by rw [List.length_set]; exact hN)
  simp [errOf_isWr]
set_option maxHeartbeats 1000000 in
theorem done_fn (r : RdS) (p : ByteArray) (to e : Int) : FnM Tryz.prog 95 (fun i => [.box i 0, .str p, .int .i64 to, .int .i64 e]) (aRd r) (.bool (decide (e = 0))) (aRd (r.moved p to e)) := by
  refine FnM.of Tryz.func95 rfl rfl (fun i => by simp) (fun H i m hHm hi hG => ?_)
  have hN : NoH H.length (.bool (decide (e = 0))) := (by simp [AV.cells, aIn, aOut])
  refine sr fun _ => ?_
  refine mz ?_
  refine AWP.seq ?_
  refine sr fun _ => ?_
  refine mv ?_
  refine ρ2 ?_
  refine ez ?_
  refine ρp (fun h0 => ?_) (fun h0 => ?_)
  · have he : e ≠ 0 := by simpa using h0
    refine sr fun _ => ?_
    refine mv ?_
    refine mv ?_
    refine mv ?_
    refine ρg cf62 (fun hg => new_fn p e) ?_
    refine ρg cf61 (fun hg => wrap_fn tRead (Er.new p e)) ?_
    first | refine ARun.nilPe rfl rfl rfl rfl (ep rfl) optN ?_ | refine ARun.nilFn rfl rfl rfl rfl (ep rfl) optN ?_ | refine ARun.nilBox rfl rfl rfl rfl (ep rfl) (atO hi) optN ?_
    refine ARun.fieldBox (fo := 2) rfl rfl rfl rfl U139 rfl rfl sz53 (by decide) (ep rfl) (atO hi) optN ?_
    refine ARun.storeO1 hi hG rfl rfl rfl sz53 (ep rfl) (ep rfl) (by first | rfl | exact aEr_one _ | exact aFl_one _) (Nat.le_of_ble_eq_true rfl) rfl (by first | exact noH_aRd _ _ | (simp; done) | (simp [cAV]; done)) (fun hG => ?_) (hsp := (by first | rfl | simp [aRd, plain_aEr]))
    refine ez ?_
    refine sr fun _ => ?_
    refine mz ?_
    refine AWP.ret (thenA_r ?_)
    refine endF.toG (congrArg (fun c => H.set i (AO.box c)) (by rw [moved_pos he]; exact congrArg (fun x => [AV.str r.s, .int .i64 r.at_, aEr x, .bool true]) (errOf_mk tRead p e))) ?_
    refine endF.one (.inr rfl) rfl (.tmp rfl) ?_ (by rw [List.length_set]; exact hN)
    simp [he]; rfl
  have he : e = 0 := by simpa using h0
  refine AWP.skip (thenA_n ?_)
  refine sr fun _ => ?_
  refine mv ?_
  refine mv ?_
  first | refine ARun.nilPe rfl rfl rfl rfl (ep rfl) optN ?_ | refine ARun.nilFn rfl rfl rfl rfl (ep rfl) optN ?_ | refine ARun.nilBox rfl rfl rfl rfl (ep rfl) (atO hi) optN ?_
  refine ARun.fieldBox (fo := 1) rfl rfl rfl rfl U139 rfl rfl sz3 (by decide) (ep rfl) (atO hi) optN ?_
  refine ARun.storeO1 hi hG rfl rfl rfl sz3 (ep rfl) (ep rfl) (by first | rfl | exact aEr_one _ | exact aFl_one _) (Nat.le_of_ble_eq_true rfl) rfl (by first | exact noH_aRd _ _ | (simp; done) | (simp [cAV]; done)) (fun hG => ?_) (hsp := (by first | rfl | simp [aRd, plain_aEr]))
  refine ez ?_
  refine sr fun _ => ?_
  refine mz ?_
  refine AWP.ret ?_
  refine endF.toG (congrArg (fun c => H.set i (AO.box c)) (by rw [moved_neg he]; rfl)) ?_
  refine endF.one (.inr rfl) rfl (.tmp rfl) ?_ (by rw [List.length_set]; exact hN)
  simp [he]; rfl
set_option maxHeartbeats 1000000 in
theorem num_r (r : RdS) (most : Int) (h : r.ok) : FnM Tryz.prog 57 (fun i => [.box i 0, .int .i64 most]) (aRd r) (.int .i64 (rdNum r most).2) (aRd (rdNum r most).1) := by
  refine FnM.of Tryz.func57 rfl rfl (fun i => by simp) (fun H i m hHm hi hG => ?_)
  have hN : NoH H.length (.int .i64 (rdNum r most).2) := (by simp [AV.cells, aIn, aOut])
  refine sr fun _ => ?_
  refine mz ?_
  refine AWP.seq ?_
  refine sr fun _ => ?_
  refine mv ?_
  refine ARun.callR rfl rfl rfl rfl cf93 (ep rfl) (.cons (ep rfl) .nil) rfl (fun hg => FnM.keep (goes_fn r) (atO hi)) optN ?_
  refine ρC ?_
  refine ez ?_
  refine ρp (fun h0 => ?_) (fun h0 => ?_)
  · have he : r.e ≠ 0 := by simpa using h0
    refine sr fun _ => ?_
    refine mz ?_
    refine AWP.ret (thenA_r ?_)
    refine endF.toG (congrArg (fun c => H.set i (AO.box c)) (by rw [rdNum, if_pos he])) ?_
    refine endF.one (.inr rfl) rfl (.tmp rfl) ?_ (by rw [List.length_set]; exact hN)
    rw [rdNum, if_pos he]; rfl
  have he : r.e = 0 := by simpa using h0
  have hde : rdNum r most = (r.moved tNum (getN (bl r.s) r.at_).2.1 (numE r most), if numE r most ≠ 0 then 0 else (getN (bl r.s) r.at_).1) := by rw [rdNum, if_neg (by omega)]
  refine AWP.skip (thenA_n (AWP.seq ?_))
  refine AWP.draw mixed (by kernel_rfl) (fun _ => ?_)
  refine mv ?_
  first | refine ARun.nilPe rfl rfl rfl rfl (ep rfl) optN ?_ | refine ARun.nilFn rfl rfl rfl rfl (ep rfl) optN ?_ | refine ARun.nilBox rfl rfl rfl rfl (ep rfl) (atO hi) optN ?_
  refine ARun.fieldBox (fo := 0) rfl rfl rfl rfl U139 rfl rfl sz9 (by decide) (ep rfl) (atO hi) optN ?_
  refine ARun.loadBox rfl rfl rfl rfl U9 rfl (ep rfl) (atO hi) rfl optN ?_
  refine mv ?_
  first | refine ARun.nilPe rfl rfl rfl rfl (ep rfl) optN ?_ | refine ARun.nilFn rfl rfl rfl rfl (ep rfl) optN ?_ | refine ARun.nilBox rfl rfl rfl rfl (ep rfl) (atO hi) optN ?_
  refine ARun.fieldBox (fo := 1) rfl rfl rfl rfl U139 rfl rfl sz3 (by decide) (ep rfl) (atO hi) optN ?_
  refine ARun.loadBox rfl rfl rfl rfl U3 rfl (ep rfl) (atO hi) rfl optN ?_
  refine ρg cf94 (fun hg => get_fn r.s r.at_ h.2.2) ?_
  refine mv ?_
  refine ρ6 ?_
  refine ρ6 ?_
  refine ρ6 ?_
  refine ma ?_
  refine ma ?_
  refine ma ?_
  refine ⟨by kernel_rfl, _, _, rfl, hG, ?_⟩
  refine thenA_n (AWP.seq ?_)
  refine sr fun _ => ?_
  refine mv ?_
  refine ρ2 ?_
  refine mv ?_
  refine ρk ?_
  refine ρk ?_
  refine ρu ?_
  refine ρ0 ?_
  refine ez ?_
  refine ρp (fun h1 => ?_) (fun h1 => ?_)
  · simp at h1
    have hne : numE r most = 3 := by rw [numE, if_pos (by omega)]
    rw [hne] at hde
    refine AWP.region (fun _ => ?_)
    refine mz ?_
    refine AWP.seq ?_
    refine sr fun _ => ?_
    refine mv ?_
    refine mv ?_
    refine mv ?_
    refine ARun.callO hi hG rfl rfl rfl rfl cf95 (ep rfl) (.cons (ep rfl) (.cons (ep rfl) (.cons (ep rfl) (.cons (ep rfl) .nil)))) rfl (done_fn r tNum (getN (bl r.s) r.at_).2.1 3 _ _ (atO hi)) (by first | exact noH_aRd _ _ | (simp; done) | (simp [cAV]; done)) optN (fun hG => ?_)
    refine ρC ?_
    refine ez ?_
    refine ρp (fun h2 => ?_) (fun h2 => ?_)
    · refine sr fun _ => ?_
      refine mz ?_
      refine AWP.ret (thenA_r ?_)
      refine endF.toG (congrArg (fun c => H.set i (AO.box c)) (by rw [hde])) ?_
      refine endF.one (.inr rfl) rfl (.tmp rfl) ?_ (by rw [List.length_set]; exact hN)
      rw [hde]; rfl
    simp at h2
  have h1' : ¬ ((getN (bl r.s) r.at_).2.2 = 0 ∧ (getN (bl r.s) r.at_).1 > most) := by simp at h1; omega
  have hne : numE r most = (getN (bl r.s) r.at_).2.2 := by rw [numE, if_neg h1']
  rw [hne] at hde
  refine AWP.skip (thenA_n (AWP.seq ?_))
  refine sr fun _ => ?_
  refine mv ?_
  refine mv ?_
  refine mv ?_
  refine ARun.callO hi hG rfl rfl rfl rfl cf95 (ep rfl) (.cons (ep rfl) (.cons (ep rfl) (.cons (ep rfl) (.cons (ep rfl) .nil)))) rfl (done_fn r tNum (getN (bl r.s) r.at_).2.1 (getN (bl r.s) r.at_).2.2 _ _ (atO hi)) (by first | exact noH_aRd _ _ | (simp; done) | (simp [cAV]; done)) optN (fun hG => ?_)
  refine ρC ?_
  refine ez ?_
  refine ρp (fun h3 => ?_) (fun h3 => ?_)
  · simp at h3
    refine sr fun _ => ?_
    refine mz ?_
    refine AWP.ret (thenA_r ?_)
    refine endF.toG (congrArg (fun c => H.set i (AO.box c)) (by rw [hde])) ?_
    refine endF.one (.inr rfl) rfl (.tmp rfl) ?_ (by rw [List.length_set]; exact hN)
    rw [hde, if_pos h3]; rfl
  simp at h3
  refine AWP.skip (thenA_n ?_)
  refine sr fun _ => ?_
  refine mv ?_
  refine mz ?_
  refine AWP.ret ?_
  refine endF.toG (congrArg (fun c => H.set i (AO.box c)) (by rw [hde])) ?_
  refine endF.one (.inr rfl) rfl (.tmp rfl) ?_ (by rw [List.length_set]; exact hN)
  rw [hde, if_neg (by omega)]
set_option maxHeartbeats 1000000 in
theorem row_r (r : RdS) (most : Int) (h : r.ok) : FnM Tryz.prog 58 (fun i => [.box i 0, .int .i64 most]) (aRd r) (.sl ((rdRow r most).2.map (AV.int .i64))) (aRd (rdRow r most).1) := by
  refine FnM.of Tryz.func58 rfl rfl (fun i => by simp) (fun H i m hHm hi hG => ?_)
  have hN : NoH H.length (.sl ((rdRow r most).2.map (AV.int .i64))) := (by simp [AV.cells])
  refine sr fun _ => ?_
  refine mz ?_
  refine AWP.seq ?_
  refine sr fun _ => ?_
  refine mv ?_
  refine ARun.callR rfl rfl rfl rfl cf93 (ep rfl) (.cons (ep rfl) .nil) rfl (fun hg => FnM.keep (goes_fn r) (atO hi)) optN ?_
  refine ρC ?_
  refine ez ?_
  refine ρp (fun h0 => ?_) (fun h0 => ?_)
  · have he : r.e ≠ 0 := by simpa using h0
    refine sr fun _ => ?_
    refine mz ?_
    refine AWP.ret (thenA_r ?_)
    refine endF.toG (congrArg (fun c => H.set i (AO.box c)) (by rw [rdRow, if_pos he])) ?_
    refine endF.one (.inr rfl) rfl (.tmp rfl) ?_ (by rw [List.length_set]; exact hN)
    rw [rdRow, if_pos he]; rfl
  have he : r.e = 0 := by simpa using h0
  have hde : rdRow r most = (r.moved tRow (unrowN (bl r.s) r.at_ most).2.1 (unrowN (bl r.s) r.at_ most).2.2, (unrowN (bl r.s) r.at_ most).1) := by rw [rdRow, if_neg (by omega)]
  refine AWP.skip (thenA_n (AWP.seq ?_))
  refine AWP.draw mixed (by kernel_rfl) (fun _ => ?_)
  refine mv ?_
  first | refine ARun.nilPe rfl rfl rfl rfl (ep rfl) optN ?_ | refine ARun.nilFn rfl rfl rfl rfl (ep rfl) optN ?_ | refine ARun.nilBox rfl rfl rfl rfl (ep rfl) (atO hi) optN ?_
  refine ARun.fieldBox (fo := 0) rfl rfl rfl rfl U139 rfl rfl sz9 (by decide) (ep rfl) (atO hi) optN ?_
  refine ARun.loadBox rfl rfl rfl rfl U9 rfl (ep rfl) (atO hi) rfl optN ?_
  refine mv ?_
  first | refine ARun.nilPe rfl rfl rfl rfl (ep rfl) optN ?_ | refine ARun.nilFn rfl rfl rfl rfl (ep rfl) optN ?_ | refine ARun.nilBox rfl rfl rfl rfl (ep rfl) (atO hi) optN ?_
  refine ARun.fieldBox (fo := 1) rfl rfl rfl rfl U139 rfl rfl sz3 (by decide) (ep rfl) (atO hi) optN ?_
  refine ARun.loadBox rfl rfl rfl rfl U3 rfl (ep rfl) (atO hi) rfl optN ?_
  refine mv ?_
  refine ARun.call rfl rfl rfl rfl cf96 (ep rfl) (.cons (ep rfl) (.cons (ep rfl) (.cons (ep rfl) .nil))) rfl (fun hg => unrowN_fn r.s r.at_ most h.2.2) optN ?_
  refine mv ?_
  refine ρ6 ?_
  refine ρ6 ?_
  refine ρ6 ?_
  refine ma ?_
  refine ma ?_
  refine ma ?_
  refine ⟨by kernel_rfl, _, _, rfl, hG, ?_⟩
  refine thenA_n (AWP.seq ?_)
  refine sr fun _ => ?_
  refine mv ?_
  refine mv ?_
  refine mv ?_
  refine ARun.callO hi hG rfl rfl rfl rfl cf95 (ep rfl) (.cons (ep rfl) (.cons (ep rfl) (.cons (ep rfl) (.cons (ep rfl) .nil)))) rfl (done_fn r tRow (unrowN (bl r.s) r.at_ most).2.1 (unrowN (bl r.s) r.at_ most).2.2 _ _ (atO hi)) (by first | exact noH_aRd _ _ | (simp; done) | (simp [cAV]; done)) optN (fun hG => ?_)
  refine ρC ?_
  refine ez ?_
  refine ρp (fun h1 => ?_) (fun h1 => ?_)
  · simp at h1
    refine sr fun _ => ?_
    refine mz ?_
    refine AWP.ret (thenA_r ?_)
    refine endF.toG (congrArg (fun c => H.set i (AO.box c)) (by rw [hde])) ?_
    refine endF.one (.inr rfl) rfl (.tmp rfl) ?_ (by rw [List.length_set]; exact hN)
    rw [hde, unrow_bad h1]; rfl
  simp at h1
  refine AWP.skip (thenA_n ?_)
  refine sr fun _ => ?_
  refine mv ?_
  refine mz ?_
  refine AWP.ret ?_
  refine endF.toG (congrArg (fun c => H.set i (AO.box c)) (by rw [hde])) ?_
  refine endF.one (.inr rfl) rfl (.tmp rfl) ?_ (by rw [List.length_set]; exact hN)
  rw [hde]
set_option maxHeartbeats 1000000 in
theorem end_r (r : RdS) (h : r.ok) : FnM Tryz.prog 59 (fun i => [.box i 0]) (aRd r) (.tup []) (aRd (rdEnd r)) := by
  refine FnM.of Tryz.func59 rfl rfl (fun i => by simp) (fun H i m hHm hi hG => ?_)
  have hN : NoH H.length (.tup []) := (by simp [AV.cells, aIn, aOut])
  refine AWP.seq ?_
  refine AWP.draw mixed (by kernel_rfl) (fun _ => ?_)
  refine mv ?_
  refine ARun.callR rfl rfl rfl rfl cf93 (ep rfl) (.cons (ep rfl) .nil) rfl (fun hg => FnM.keep (goes_fn r) (atO hi)) optN ?_
  refine mv ?_
  refine ρk ?_
  first | refine ARun.nilPe rfl rfl rfl rfl (Ev.opt rfl (fun h => h)) optS ?_ | refine ARun.nilFn rfl rfl rfl rfl (Ev.opt rfl (fun h => h)) optS ?_ | refine ARun.nilBox rfl rfl rfl rfl (Ev.opt rfl (fun h => h)) (atO hi) optS ?_
  refine ARun.fieldBox (fo := 1) rfl rfl rfl rfl U139 rfl rfl sz3 (by decide) (Ev.opt rfl (fun h => h)) (atO hi) optS ?_
  refine ARun.loadBox rfl rfl rfl rfl U3 rfl (Ev.opt rfl (fun h => h)) (atO hi) rfl optS ?_
  refine ρk ?_
  first | refine ARun.nilPe rfl rfl rfl rfl (Ev.opt rfl (fun h => h)) optS ?_ | refine ARun.nilFn rfl rfl rfl rfl (Ev.opt rfl (fun h => h)) optS ?_ | refine ARun.nilBox rfl rfl rfl rfl (Ev.opt rfl (fun h => h)) (atO hi) optS ?_
  refine ARun.fieldBox (fo := 0) rfl rfl rfl rfl U139 rfl rfl sz9 (by decide) (Ev.opt rfl (fun h => h)) (atO hi) optS ?_
  refine ARun.loadBox rfl rfl rfl rfl U9 rfl (Ev.opt rfl (fun h => h)) (atO hi) rfl optS ?_
  refine ARun.lenStr rfl rfl rfl rfl U9 (Ev.opt rfl (fun h => h)) optS ?_
  refine ρu ?_
  refine ρ0 ?_
  refine ⟨by kernel_rfl, _, _, rfl, hG, ?_⟩
  refine thenA_n ?_
  refine ρp (fun h0 => ?_) (fun h0 => ?_)
  · simp at h0
    refine AWP.region (fun _ => ?_)
    refine mv ?_
    refine ARun.callO hi hG rfl rfl rfl rfl cf95 (ep rfl) (.cons (ep rfl) (.cons (ep rfl) (.cons (ep rfl) (.cons (ep rfl) .nil)))) rfl (done_fn r tEnd 0 6 _ _ (atO hi)) (by first | exact noH_aRd _ _ | (simp; done) | (simp [cAV]; done)) optN (fun hG => ?_)
    refine ⟨_, _, rfl, hG, ?_⟩
    refine endF.toG (congrArg (fun c => H.set i (AO.box c)) (by rw [rdEnd, if_pos h0])) ?_
    refine endF.many (.inl rfl) (rs := []) rfl .nil (by simp) ?_ (by rw [List.length_set]; exact hN)
    rfl
  simp at h0
  refine AWP.skip ?_
  refine endF.toG (congrArg (fun c => H.set i (AO.box c)) (by rw [rdEnd, if_neg (by omega)])) ?_
  refine endF.many (.inl rfl) (rs := []) rfl .nil (by simp) ?_ (by rw [List.length_set]; exact hN)
  rfl
set_option maxHeartbeats 1000000 in
theorem rdone_fn (r : RdS) : FnM Tryz.prog 60 (fun i => [.box i 0]) (aRd r) (aEr (errOf tRead r.p r.e)) (aRd r) := by
  refine FnM.of Tryz.func60 rfl rfl (fun i => by simp) (fun H i m hHm hi hG => ?_)
  have hN : NoH H.length (aEr (errOf tRead r.p r.e)) := (by simp [AV.cells, aIn, aOut])
  refine sr fun _ => ?_
  refine mz ?_
  refine AWP.seq ?_
  refine sr fun _ => ?_
  refine mv ?_
  refine ARun.isNilBox rfl rfl rfl rfl U100 (ep rfl) (atO hi) (.inl ⟨rfl, rfl⟩) optN ?_
  refine mv ?_
  refine ρk ?_
  first | refine ARun.nilPe rfl rfl rfl rfl (Ev.opt rfl (fun h => h)) optS ?_ | refine ARun.nilFn rfl rfl rfl rfl (Ev.opt rfl (fun h => h)) optS ?_ | refine ARun.nilBox rfl rfl rfl rfl (Ev.opt rfl (fun h => h)) (atO hi) optS ?_
  refine ARun.fieldBox (fo := 3) rfl rfl rfl rfl U139 rfl rfl sz4 (by decide) (Ev.opt rfl (fun h => h)) (atO hi) optS ?_
  refine ARun.loadBox rfl rfl rfl rfl U4 rfl (Ev.opt rfl (fun h => h)) (atO hi) rfl optS ?_
  refine ARun.not rfl rfl rfl rfl (Ev.opt rfl (fun h => h)) optS ?_
  refine ρ3 ?_
  refine ez ?_
  refine ρp (fun h0 => ?_) (fun h0 => ?_)
  · simp at h0
  refine AWP.skip (thenA_n ?_)
  refine sr fun _ => ?_
  refine mv ?_
  first | refine ARun.nilPe rfl rfl rfl rfl (ep rfl) optN ?_ | refine ARun.nilFn rfl rfl rfl rfl (ep rfl) optN ?_ | refine ARun.nilBox rfl rfl rfl rfl (ep rfl) (atO hi) optN ?_
  refine ARun.fieldBox (fo := 2) rfl rfl rfl rfl U139 rfl rfl sz53 (by decide) (ep rfl) (atO hi) optN ?_
  refine ARun.loadBox rfl rfl rfl rfl U53 rfl (ep rfl) (atO hi) rfl optN ?_
  refine mz ?_
  refine AWP.ret ?_
  refine endF.toG (congrArg (fun c => H.set i (AO.box c)) rfl) ?_
  refine endF.one (.inr rfl) rfl (.tmp rfl) ?_ (by rw [List.length_set]; exact hN)
  rfl
theorem fit_one {n : Int} (h : -9223372036854775808 ≤ n ∧ n ≤ 9223372036854775807) : ∀ x, x ∈ [n] → -9223372036854775808 ≤ x ∧ x ≤ 9223372036854775807 := by
  intro x hx; simp at hx; subst hx; exact h
end Go.Proofs.YtgebpndhnkkbgaaGreatDoor
namespace Go.Proofs.YtgebpndhnkkbgaaGreatDoor
set_option linter.unusedVariables false
set_option linter.unusedSimpArgs false
open Go.RowKit Go.WideShapes
inductive AllRep (β : List Hd) (w : World) : List Value → List AV → Prop where
  | nil : AllRep β w [] []
  | cons {v : Value} {x : AV} {vs : List Value} {xs : List AV} (h : VRep β w v x) (t : AllRep β w vs xs) : AllRep β w (v :: vs) (x :: xs)
theorem AllRep.reps {β : List Hd} {w : World} : ∀ {vs : List Value} {xs : List AV}, AllRep β w vs xs → VReps β w vs.toArray xs := by
  intro vs
  induction vs with
  | nil => intro xs h; cases h; exact ⟨rfl, fun j u x h => by simp at h⟩
  | cons v vs ih =>
    intro xs h
    cases h with
    | cons h t =>
      obtain ⟨h1, h2⟩ := ih t
      refine ⟨by simpa using h1, fun j u x k1 k2 => ?_⟩
      cases j with
      | zero => simp at k1 k2; subst k1 k2; exact h
      | succ j => exact h2 j u x (by simpa using k1) (by simpa using k2)
theorem law_of_fn {P : Program} {F : FuncId} {args : List AV} (h : FnP P F args (.bool true)) {w : World} (hg : GOk [] w) {vs : List Value} (hv : AllRep [] w vs args) : Calls P F vs.toArray w fun e w' => e = .returned (.bool true) ∧ Below w.heap.size w w' := by
  refine (pure_call h (HRel.nil w hg) hv.reps).mono ?_
  rintro e w' ⟨v, rfl, hb, hr⟩
  obtain rfl := hr.bool_inv
  exact ⟨rfl, hb⟩
end Go.Proofs.YtgebpndhnkkbgaaGreatDoor
namespace Go.Proofs.YtgebpndhnkkbgaaGreatDoor
set_option linter.unusedVariables false
set_option linter.unusedSimpArgs false
open Go.RowKit
theorem VRep.owned {α : Type} {enc : α → List Value} {av : α → AV} {z : Nat} (hz : ∀ x, (enc x).length = z) (hc : ∀ x, (av x).cells = (enc x).map cAV) {β : List Hd} {w : World} {B : Nat} {e : TypeId} {v : Value} {xs : List α} (h : w.ownsRow B e z v xs.length (xs.flatMap enc)) (hβ : ∀ y, y ∈ β → ∀ b, b ∈ y.blks → b < B) : VRep β w v (.sl (xs.map av)) := by
  obtain ⟨a, cap, rfl, h1, h2, hr⟩ := Reads.of_owns hz rfl h
  cases a with
  | none =>
    rcases h.2 with ⟨e1, e2⟩ | ⟨g, cap', cur, e1, _⟩
    · have : xs = [] := List.length_eq_zero_iff.1 e2
      subst this
      cases e1; exact .slnil
    · cases e1
  | some x =>
    obtain ⟨b, off, sp⟩ := x
    rcases h.2 with ⟨e1, _⟩ | ⟨g, cap', cur, e1, hB, hg, _⟩
    · cases e1
    · cases e1
      have hget : ∀ (i j : Nat) (x y : AV), (xs.map av)[i]? = some x → x.cells[j]? = some y → ∃ u, w.cell? ⟨b, 0 + i * z + j, none⟩ = some u ∧ y = cAV u := by
        intro i j x y h3 h4
        rw [List.getElem?_map, Option.map_eq_some_iff] at h3
        obtain ⟨x', h3, rfl⟩ := h3
        obtain ⟨hi, rfl⟩ := List.getElem?_eq_some_iff.1 h3
        rw [hc, List.getElem?_map, Option.map_eq_some_iff] at h4
        obtain ⟨u, h4, rfl⟩ := h4
        obtain ⟨hj, h5⟩ := List.getElem?_eq_some_iff.1 h4
        obtain ⟨b', off', e1, e2, e3⟩ := hr i hi
        cases e1
        exact ⟨u, by rw [e3 j (by rw [← hz]; exact hj)]; exact h4, rfl⟩
      have h := VRep.sl (β := β) (w := w) b 0 cap z (xs.map av) (by simpa using h1) h2 (Array.getElem?_eq_some_iff.1 hg).1 (fun y hy hm => by have := hβ y hy _ hm; omega) (fun x hx => by
          obtain ⟨y, _, rfl⟩ := List.mem_map.1 hx
          rw [hc, List.length_map, hz])
        (fun i j x y h3 h4 => by obtain ⟨u, h5, _⟩ := hget i j x y h3 h4; exact ⟨u, h5⟩)
        (fun i j x y u h3 h4 h5 => by
          obtain ⟨u', h6, rfl⟩ := hget i j x y h3 h4
          rw [h5] at h6; cases h6; exact cAV_rep _ _ _)
      rw [List.length_map] at h
      exact h
theorem cAV_noH (m : Nat) (v : Value) : NoH m (cAV v) := by
  unfold cAV; split <;> first | exact .int _ _ | exact .bool _ | exact .str _ | exact .raw _ | exact .sl _ (fun x hx => by cases hx)
theorem FnP.of_owns {α : Type} (enc : α → List Value) (av : α → AV) (z : Nat) (hz : ∀ x, (enc x).length = z) (hc : ∀ x, (av x).cells = (enc x).map cAV) (hp : ∀ x u, u ∈ enc x → plainV u = true) {P : Program} {F : FuncId} {e : TypeId} (xs : List α)
    (h : ∀ (w : World) (a : Option Addr) (cap : Nat), Reads enc z w a xs → xs.length ≤ cap → cap ≤ maxLen → (a = none → cap = 0) → Calls P F #[.slice a xs.length cap] w fun e' w' => ∃ v, e' = .returned v ∧ w'.ownsRow w.heap.size e z v xs.length (xs.flatMap enc) ∧ Below w.heap.size w w') :
    FnP P F [.sl (xs.map av)] (.sl (xs.map av)) := by
  refine ⟨.sl _ fun x hx y hy => ?_, fun k w β vs hH hv => ?_⟩
  · obtain ⟨x', _, rfl⟩ := List.mem_map.1 hx
    rw [hc] at hy
    obtain ⟨u, _, rfl⟩ := List.mem_map.1 hy
    exact cAV_noH _ _
  · obtain ⟨v0, rfl, h0⟩ := VReps.single hv
    obtain ⟨a, cap, rfl, h1, h2, h3, h4⟩ := sl_reads hz hc hp h0
    refine (h w a cap h4 h1 h2 h3).mono ?_
    rintro e' w' ⟨v, rfl, ho, hb⟩
    exact ⟨v, β, rfl, Ext.of_below β hb, hH.below hb, VRep.owned hz hc ho (fun y hy b hm => by
      obtain ⟨j, hj, rfl⟩ := List.mem_iff_getElem.1 hy
      exact hH.lt (List.getElem?_eq_getElem hj) hm)⟩
end Go.Proofs.YtgebpndhnkkbgaaGreatDoor
namespace Go.Proofs.YtgebpndhnkkbgaaGreatDoor
set_option linter.unusedVariables false
set_option linter.unusedSimpArgs false
open Go.ChangeShapes Go.WideShapes Go.ChangeAt Go.RowKit
set_option linter.unusedVariables false
set_option linter.unusedSimpArgs false
set_option maxRecDepth 100000
theorem infoIC : (Tryz.prog.info? 3).map (fun i => (i.zero, i.size, i.bytes)) = some (some (.int .i64 0), 1, 8) := by kernel_rfl
set_option maxHeartbeats 1000000 in
theorem cloneI_any (a : Option Addr) (cap : Nat) (xs : List Int) (w : World) (hr : Reads encI 1 w a xs) (hl : xs.length ≤ 1000000) :
    Calls Tryz.prog 65 #[.slice a xs.length cap] w fun e w' => ∃ v, e = .returned v ∧ w'.ownsRow w.heap.size 3 1 v xs.length (xs.flatMap encI) ∧ Below w.heap.size w w' := by
  cases a with
  | none =>
    have hx : xs = [] := by
      cases xs with
      | nil => rfl
      | cons x xs => obtain ⟨b, off, h, _⟩ := hr 0 (by simp); cases h
    subst hx
    have hnil := Lib.run_eql_slice_nil (P := Tryz.prog) w 29 3 none 0 cap 0 0 U29
    have HP := Lib.hid (World.ownsRow_nil w w.heap.size 3 1)
    go_enter Tryz.func65, Tryz.ntmps65
    go_wp2_with fail
    go_ret
    exact ⟨_, rfl, HP.out, Below.refl _ _⟩
  | some ad =>
    obtain ⟨i0, hi, hz0, hz1, hz2⟩ := info_parts infoIC
    have hnil := Lib.run_eql_slice_nil (P := Tryz.prog) w 29 3 (some ad) xs.length cap 0 0 U29
    have HR := Lib.hid hr
    clear hr
    go_enter Tryz.func65, Tryz.ntmps65
    have hfl := HR.out.flat (by omega) encI_len
    have HFL := Lib.hid hfl
    clear hfl
    go_wp2_with (at_builtin; refine wpList_append_own _ rfl _ _ 29 rfl w.heap.size 3 i0 (.int .i64 0) 1 8 U29 hi hz0 hz1 hz2 rfl (by decide) _ _ _ rfl (World.ownsRow_made w #[] 0 (Nat.le_refl _) (by unfold maxLen; omega) rfl) ad xs.length cap (xs.flatMap encI) rfl ?c0 ?c1 ?c2 ?c3 ?c4 ?c5 ?_)
    case c0 => rw [flat_len encI 1 encI_len]
    case c1 =>
      intro j u hu
      obtain ⟨h1, h2⟩ := HFL.out j u hu
      have h3 : (ad.add j).block = ad.block := by unfold Addr.add; split <;> rfl
      rw [World.cell?_alloc_lt _ _ _ (by rw [h3]; exact h1)]
      exact h2
    case c2 =>
      intro u hu
      obtain ⟨x, _, hx⟩ := List.mem_flatMap.1 hu
      simp [encI] at hx
      subst hx; rfl
    case c3 => unfold maxLen; omega
    case c4 => omega
    case c5 => simp
    intro v' w2 hown' hgrow _
    have hbel : Below w.heap.size w w2 := ((Below.refl _ _).alloc (Nat.le_refl _) _).grown hgrow (by simp) (fun k hk => by simp [Value.ownBlock] at hk; omega)
    have HO := Lib.hid hown'
    clear hown' hgrow
    go_wp2_with fail
    go_ret
    exact ⟨_, rfl, HO.out, hbel⟩
theorem cloneI_fn (xs : List Int) (hl : xs.length ≤ 1000000) : FnP Tryz.prog 65 [.sl (xs.map (AV.int .i64))] (.sl (xs.map (AV.int .i64))) :=
  FnP.of_owns encI (AV.int .i64) 1 encI_len (fun _ => rfl) (fun x u hu => by simp [encI] at hu; subst hu; rfl) xs (fun w a cap hr h1 h2 h3 => cloneI_any a cap xs w hr hl)
end Go.Proofs.YtgebpndhnkkbgaaGreatDoor
namespace Go.Proofs.YtgebpndhnkkbgaaGreatDoor
set_option linter.unusedVariables false
set_option linter.unusedSimpArgs false
open Go.RowKit
open NumP
set_option maxRecDepth 100000
def aLn (s : Ln) : AV := .agg [.int .i64 s.item, .int .i64 s.qty]
def aCl (c : Cl) : AV := .agg [.int .i64 c.client, .int .i64 c.seq, .int .i64 c.kind, .int .i64 c.item, .int .i64 c.to_, .int .i64 c.qty, .sl (c.lines.map aLn)]
def aRp (r : Rp) : AV := .agg [.int .i64 r.code, .sl (r.nums.map (AV.int .i64))]
theorem okAt_not (l : List Ln) (k : Nat) : (!numbP (l.getD k default).item || decide ((l.getD k default).item ≤ lastAt l k) || !someP (l.getD k default).qty) = !okAt l k := by
  cases h : numbP (l.getD k default).item with
  | false => unfold okAt; rw [h]; rfl
  | true =>
    unfold okAt
    rw [okAt_iff l k h, h]
    by_cases h2 : lastAt l k < (l.getD k default).item
    · rw [decide_eq_true h2, decide_eq_false (by omega)]; simp
    rw [decide_eq_false h2, decide_eq_true (by omega)]; simp
theorem new_none (p : ByteArray) (e : Int) : (Er.new p e).isNone = decide (e = 0) := by unfold Er.new; split <;> simp_all [Er.isNone]
theorem wrap_none (p : ByteArray) (e : Er) : (Er.wrap p e).isNone = e.isNone := by unfold Er.wrap; split <;> simp_all [Er.isNone]
theorem any_neg (l : List Int) : (l.any fun n => decide (n < 0)) = !nneg l := by
  induction l with
  | nil => rfl
  | cons x l ih => simp only [List.any_cons, nneg, List.all_cons] at ih ⊢; rw [ih]; by_cases h : x < 0 <;> simp [h] <;> omega
theorem pair_snoc (l : List Int) (k : Nat) (h : 2 * k + 1 < l.length) : (pairsL (l.take (2 * k))).map aLn ++ [AV.agg [AV.int .i64 (l.getD (2 * k) default), AV.int .i64 (l.getD (2 * k + 1) default)]] = (pairsL (l.take (2 * (k + 1)))).map aLn := by rw [pairsL_take l k h]; simp [aLn]
theorem pairsL_len : ∀ l : List Int, (pairsL l).length ≤ l.length
  | [] => Nat.le_refl _
  | [_] => by simp [pairsL]
  | a :: b :: r => by have := pairsL_len r; simp [pairsL]; omega
theorem last_succ (l : List Ln) (k : Nat) : lastAt l (k + 1) = (l.getD k default).item := by simp [lastAt]
theorem okAt_nR (l : List Ln) (k : Nat) (a : Int) (ha : 0 < k → a = (l.getD (k - 1) default).item) : (!numbP (l.getD k default).item || decide ((l.getD k default).qty < 1) || decide (1000000 < (l.getD k default).qty) || (decide (0 < (k : Int)) && decide ((l.getD k default).item ≤ a))) = !okAt l k := by
  unfold okAt someP
  by_cases hk : 0 < k
  · rw [ha hk]
    cases h : numbP (l.getD k default).item <;> simp [show ¬ k = 0 by omega, hk] <;> by_cases h1 : (l.getD k default).qty < 1 <;> by_cases h2 : 1000000 < (l.getD k default).qty <;> by_cases h3 : (l.getD k default).item ≤ (l.getD (k - 1) default).item <;> simp_all <;> omega
  obtain rfl : k = 0 := by omega
  cases h : numbP (l.getD 0 default).item <;> simp <;> by_cases h1 : (l.getD 0 default).qty < 1 <;> by_cases h2 : 1000000 < (l.getD 0 default).qty <;> simp_all <;> omega
set_option maxHeartbeats 1000000 in
theorem number_fn (n : Int) : FnP Tryz.prog 66 [.int .i64 n] (.bool (numbP n)) := by
  refine FnP.of Tryz.func66 rfl rfl (by simp) (by simp [AV.cells, aIn, aOut, aLn, aCl, aRp]) (fun G hG => ?_)
  have hN : NoH G.length (.bool (numbP n)) := (by simp [AV.cells, aIn, aOut, aLn, aCl, aRp])
  refine sr fun _ => ?_
  refine mz ?_
  refine sr fun _ => ?_
  refine mv ?_
  refine ρ2 ?_
  refine mv ?_
  refine ρk ?_
  refine ρ9 ?_
  refine ρ0 ?_
  refine mz ?_
  refine AWP.ret ?_
  refine ρh ?_
  rfl
set_option maxHeartbeats 1000000 in
theorem some_fn (n : Int) : FnP Tryz.prog 102 [.int .i64 n] (.bool (someP n)) := by
  refine FnP.of Tryz.func102 rfl rfl (by simp) (by simp [AV.cells, aIn, aOut, aLn, aCl, aRp]) (fun G hG => ?_)
  have hN : NoH G.length (.bool (someP n)) := (by simp [AV.cells, aIn, aOut, aLn, aCl, aRp])
  refine sr fun _ => ?_
  refine mz ?_
  refine sr fun _ => ?_
  refine mv ?_
  refine ρ2 ?_
  refine mv ?_
  refine ρk ?_
  refine ρ9 ?_
  refine ρ0 ?_
  refine mz ?_
  refine AWP.ret ?_
  refine ρh ?_
  rfl
set_option maxHeartbeats 1000000 in
theorem lines_fn (l : List Ln) (hl : l.length ≤ 100000) : FnP Tryz.prog 103 [.sl (l.map aLn)] (.bool (linesP l)) := by
  refine FnP.of Tryz.func103 rfl rfl (by simp) (by simp [AV.cells, aIn, aOut, aLn, aCl, aRp]) (fun G hG => ?_)
  have hN : NoH G.length (.bool (linesP l)) := (by simp [AV.cells, aIn, aOut, aLn, aCl, aRp])
  refine sr fun _ => ?_
  refine mz ?_
  refine sr fun _ => ?_
  refine mz ?_
  refine AWP.seq ?_
  refine sr fun _ => ?_
  refine mv ?_
  refine ρv U23 ?_
  refine mv ?_
  refine ez ?_
  refine AWP.block ?_
  refine AWP.rounds (fun k => k ≤ l.length ∧ ∀ j, j < k → okAt l j = true) (fun k => [(0, .sl (l.map aLn)), (3, .int .i64 (lastAt l k)), (6, .sl (l.map aLn)), (7, .int .i64 ((l.map aLn).length : Int)), (8, .int .i64 (k : Int))]) (fun k => []) (fun k => l.length - k) 0 0 ⟨by omega, fun j h => by omega⟩ (by repeat (first | exact .nil | refine .cons rfl ?_)) rfl (fun _ => rfl) (fun _ => ⟨by simp [AV.cells, aLn], by simp⟩) (fun k hI => ?_)
  obtain ⟨hk, hno⟩ := hI
  refine sr fun _ => ?_
  refine ρ2 ?_
  refine ez ?_
  refine AWP.seq ?_
  refine ρp (fun h0 => ?_) (fun h0 => ?_)
  · try simp [-List.getD_eq_getElem?_getD] at h0
    refine AWP.skip (thenA_n ?_)
    refine AWP.seq (AWP.block ?_)
    refine sr fun _ => ?_
    first | refine ρe U23 sz108 ?_ | refine ρ7 U23 sz108 ?_
    refine ρq U108 sz108 ?_
    refine ρo (j := 0) zv108 ?_
    refine ρ1 sz108 ?_
    refine ez ?_
    refine AWP.seq ?_
    refine sr fun _ => ?_
    refine ρ4 (fo := 0) U108 sz3 ?_
    refine ρd U3 ?_
    refine ρm cf66 (fun hg => number_fn (l.getD k default).item) ?_
    refine ρC ?_
    refine mv ?_
    refine ρt (fo := 0) U108 sz3 ?_
    refine ρr U3 ?_
    refine ρk ?_
    refine ρu ?_
    refine ρ3 ?_
    refine mv ?_
    refine ρt (fo := 1) U108 sz3 ?_
    refine ρr U3 ?_
    refine ρn cf102 (fun hg => some_fn (l.getD k default).qty) ?_
    refine ARun.not rfl rfl rfl rfl (Ev.opt rfl (fun h => h)) optS ?_
    refine ρ3 ?_
    refine ez ?_
    refine ρp (fun h1 => ?_) (fun h1 => ?_)
    · rw [show (!numbP (l.getD k default).item || decide ((l.getD k default).item ≤ lastAt l k) || !someP (l.getD k default).qty) = !okAt l k from okAt_not l k] at h1
      simp only [Bool.not_eq_true'] at h1
      refine sr fun _ => ?_
      refine mz ?_
      refine AWP.ret (thenA_r ?_)
      refine blockA_r (thenA_r ?_)
      refine thenA_r (blockA_r (thenA_r ?_))
      refine ρh ?_
      rw [linesP_no (by omega) h1]; rfl
    rw [show (!numbP (l.getD k default).item || decide ((l.getD k default).item ≤ lastAt l k) || !someP (l.getD k default).qty) = !okAt l k from okAt_not l k] at h1
    simp only [Bool.not_eq_false'] at h1
    refine AWP.skip (thenA_n ?_)
    refine AWP.region (fun _ => ?_)
    refine ρ4 (fo := 0) U108 sz3 ?_
    refine ρd U3 ?_
    refine ma ?_
    refine ⟨_, _, rfl, hG, ?_⟩
    refine blockA_n (thenA_n ?_)
    refine AWP.region (fun _ => ?_)
    first | refine ρb ?_ | refine ρl ?_
    refine mv ?_
    refine ⟨_, _, rfl, hG, ?_⟩
    refine thenA_n ⟨rfl, k + 1, _, ?_, ?_, rfl, ?_⟩
    · refine ⟨by omega, fun j hj => ?_⟩
      by_cases e : j = k
      · subst e; exact h1
      exact hno j (by omega)
    · rw [last_succ]
      repeat (first | exact .nil | refine .cons rfl ?_)
    omega
  try simp [-List.getD_eq_getElem?_getD] at h0
  refine AWP.exit ?_
  refine thenA_x ?_
  refine thenA_x ?_
  refine blockA_h ?_
  refine thenA_n ?_
  refine sr fun _ => ?_
  refine mv ?_
  refine ρv U23 ?_
  refine ρ2 ?_
  refine mv ?_
  refine ρk ?_
  refine ARun.lenSl rfl rfl rfl rfl U23 (Ev.opt rfl (fun h => h)) optS ?_
  refine ρ9 ?_
  refine ρ0 ?_
  refine mz ?_
  refine AWP.ret ?_
  refine ρh ?_
  rw [linesP_yes (fun j hj => hno j (by omega))]; first | (simp; done) | (simp; congr 1; exact decide_eq_decide.2 (by omega))
set_option maxHeartbeats 1000000 in
theorem bare_fn (c : Cl) : FnP Tryz.prog 101 [aCl c] (.bool (bareP c)) := by
  refine FnP.of Tryz.func101 rfl rfl (by simp) (by simp [AV.cells, aIn, aOut, aLn, aCl, aRp]) (fun G hG => ?_)
  have hN : NoH G.length (.bool (bareP c)) := (by simp [AV.cells, aIn, aOut, aLn, aCl, aRp])
  refine sr fun _ => ?_
  refine ρx ?_
  refine mz ?_
  refine sr fun _ => ?_
  refine ρ5 U25 sz3 ?_
  refine ρa U3 ?_
  refine ρ2 ?_
  refine mv ?_
  refine ρc U25 sz23 ?_
  refine ρ8 U23 ?_
  refine ARun.lenSl rfl rfl rfl rfl U23 (Ev.opt rfl (fun h => h)) optS ?_
  refine ρ9 ?_
  refine ρ0 ?_
  refine mv ?_
  refine ρc U25 sz3 ?_
  refine ρ8 U3 ?_
  refine ρn cf66 (fun hg => number_fn c.item) ?_
  refine ρ0 ?_
  refine mz ?_
  refine AWP.ret ?_
  refine ρh ?_
  simp [bareP]
set_option maxHeartbeats 1000000 in
theorem may_fn (c : Cl) (hl : c.lines.length ≤ 100000) : FnP Tryz.prog 67 [aCl c] (.bool (mayP c)) := by
  refine FnP.of Tryz.func67 rfl rfl (by simp) (by simp [AV.cells, aIn, aOut, aLn, aCl, aRp]) (fun G hG => ?_)
  have hN : NoH G.length (.bool (mayP c)) := (by simp [AV.cells, aIn, aOut, aLn, aCl, aRp])
  refine sr fun _ => ?_
  refine ρx ?_
  refine mz ?_
  refine AWP.seq ?_
  refine sr fun _ => ?_
  refine ρ5 U25 sz3 ?_
  refine ρa U3 ?_
  refine ez ?_
  refine AWP.block ?_
  refine sr fun _ => ?_
  refine ρ2 ?_
  refine mz ?_
  refine ρp (fun h0 => ?_) (fun h0 => ?_)
  · simp at h0
    refine sr fun _ => ?_
    refine ρq U25 sz25 ?_
    refine ρm cf101 (fun hg => bare_fn c) ?_
    refine mv ?_
    refine ρc U25 sz3 ?_
    refine ρ8 U3 ?_
    refine ρ9 ?_
    refine ARun.move (.inl rfl) rfl rfl rfl (Ev.opt rfl (fun h => h)) optS ?_
    refine ρc U25 sz3 ?_
    refine ρ8 U3 ?_
    refine ρn cf102 (fun hg => some_fn c.qty) ?_
    refine ARun.pick rfl rfl rfl rfl (Ev.opt rfl (fun h => h)) (ep rfl) (Ev.opt rfl (by first | exact pkF | exact pkF2 | simp +contextual)) (orB _ _) optS ?_
    refine ρ0 ?_
    refine mz ?_
    refine AWP.ret (blockA_r (thenA_r ?_))
    refine ρh ?_
    (unfold mayP; simp_all)
  simp at h0
  refine AWP.seq ?_
  refine sr fun _ => ?_
  refine ρ2 ?_
  refine mz ?_
  refine ρp (fun h1 => ?_) (fun h1 => ?_)
  · simp at h1
    refine AWP.skip (thenA_n ?_)
    refine ρp (fun h2 => ?_) (fun h2 => ?_)
    · simp at h2
      refine sr fun _ => ?_
      refine ρq U25 sz25 ?_
      refine ρm cf101 (fun hg => bare_fn c) ?_
      refine mv ?_
      refine ρc U25 sz3 ?_
      refine ρ8 U3 ?_
      refine ρn cf102 (fun hg => some_fn c.qty) ?_
      refine ρ0 ?_
      refine mz ?_
      refine AWP.ret (blockA_r (thenA_r ?_))
      refine ρh ?_
      (unfold mayP; simp_all)
    simp at h2
    refine sr fun _ => ?_
    refine ρ2 ?_
    refine mz ?_
    refine ρp (fun h3 => ?_) (fun h3 => ?_)
    · simp at h3
      refine sr fun _ => ?_
      refine ρ5 U25 sz3 ?_
      refine ρa U3 ?_
      refine ρm cf66 (fun hg => number_fn c.item) ?_
      refine mv ?_
      refine ρc U25 sz3 ?_
      refine ρ8 U3 ?_
      refine ρn cf66 (fun hg => number_fn c.to_) ?_
      refine ρ0 ?_
      refine mv ?_
      refine ρc U25 sz3 ?_
      refine ρ8 U3 ?_
      refine ρc U25 sz3 ?_
      refine ρ8 U3 ?_
      refine ρu ?_
      refine ρ0 ?_
      refine mv ?_
      refine ρc U25 sz3 ?_
      refine ρ8 U3 ?_
      refine ρn cf102 (fun hg => some_fn c.qty) ?_
      refine ρ0 ?_
      refine mv ?_
      refine ρc U25 sz23 ?_
      refine ρ8 U23 ?_
      refine ARun.lenSl rfl rfl rfl rfl U23 (Ev.opt rfl (fun h => h)) optS ?_
      refine ρ9 ?_
      refine ρ0 ?_
      refine mz ?_
      refine AWP.ret (blockA_r (thenA_r ?_))
      refine ρh ?_
      (unfold mayP; simp_all)
    simp at h3
    refine sr fun _ => ?_
    refine ρ2 ?_
    refine mz ?_
    refine ρp (fun h4 => ?_) (fun h4 => ?_)
    · simp at h4
      refine sr fun _ => ?_
      refine ρq U25 sz25 ?_
      refine ρm cf101 (fun hg => bare_fn c) ?_
      refine mv ?_
      refine ρc U25 sz3 ?_
      refine ρ8 U3 ?_
      refine ρ9 ?_
      refine ρ0 ?_
      refine mz ?_
      refine AWP.ret (blockA_r (thenA_r ?_))
      refine ρh ?_
      (unfold mayP; simp_all)
    simp at h4
    refine AWP.skip (blockA_n (thenA_n ?_))
    refine sr fun _ => ?_
    refine ρ5 U25 sz3 ?_
    refine ρa U3 ?_
    refine ρ2 ?_
    refine mv ?_
    refine ρc U25 sz3 ?_
    refine ρ8 U3 ?_
    refine ρ9 ?_
    refine ρ0 ?_
    refine mv ?_
    refine ρc U25 sz3 ?_
    refine ρ8 U3 ?_
    refine ρ9 ?_
    refine ρ0 ?_
    refine mv ?_
    refine ρc U25 sz23 ?_
    refine ρ8 U23 ?_
    refine ρn cf103 (fun hg => lines_fn c.lines hl) ?_
    refine ρ0 ?_
    refine mz ?_
    refine AWP.ret ?_
    refine ρh ?_
    (unfold mayP; simp_all)
  simp at h1
  refine sr fun _ => ?_
  refine ρ2 ?_
  refine mz ?_
  refine ρp (fun h5 => ?_) (fun h5 => ?_)
  · simp at h5
    refine AWP.skip (thenA_n ?_)
    refine ρp (fun h6 => ?_) (fun h6 => ?_)
    · simp at h6
      refine sr fun _ => ?_
      refine ρq U25 sz25 ?_
      refine ρm cf101 (fun hg => bare_fn c) ?_
      refine mv ?_
      refine ρc U25 sz3 ?_
      refine ρ8 U3 ?_
      refine ρn cf102 (fun hg => some_fn c.qty) ?_
      refine ρ0 ?_
      refine mz ?_
      refine AWP.ret (blockA_r (thenA_r ?_))
      refine ρh ?_
      (unfold mayP; simp_all)
    simp at h6
    refine sr fun _ => ?_
    refine ρ2 ?_
    refine mz ?_
    refine ρp (fun h7 => ?_) (fun h7 => ?_)
    · simp at h7
      refine sr fun _ => ?_
      refine ρ5 U25 sz3 ?_
      refine ρa U3 ?_
      refine ρm cf66 (fun hg => number_fn c.item) ?_
      refine mv ?_
      refine ρc U25 sz3 ?_
      refine ρ8 U3 ?_
      refine ρn cf66 (fun hg => number_fn c.to_) ?_
      refine ρ0 ?_
      refine mv ?_
      refine ρc U25 sz3 ?_
      refine ρ8 U3 ?_
      refine ρc U25 sz3 ?_
      refine ρ8 U3 ?_
      refine ρu ?_
      refine ρ0 ?_
      refine mv ?_
      refine ρc U25 sz3 ?_
      refine ρ8 U3 ?_
      refine ρn cf102 (fun hg => some_fn c.qty) ?_
      refine ρ0 ?_
      refine mv ?_
      refine ρc U25 sz23 ?_
      refine ρ8 U23 ?_
      refine ARun.lenSl rfl rfl rfl rfl U23 (Ev.opt rfl (fun h => h)) optS ?_
      refine ρ9 ?_
      refine ρ0 ?_
      refine mz ?_
      refine AWP.ret (blockA_r (thenA_r ?_))
      refine ρh ?_
      (unfold mayP; simp_all)
    simp at h7
    refine sr fun _ => ?_
    refine ρ2 ?_
    refine mz ?_
    refine ρp (fun h8 => ?_) (fun h8 => ?_)
    · simp at h8
      refine sr fun _ => ?_
      refine ρq U25 sz25 ?_
      refine ρm cf101 (fun hg => bare_fn c) ?_
      refine mv ?_
      refine ρc U25 sz3 ?_
      refine ρ8 U3 ?_
      refine ρ9 ?_
      refine ρ0 ?_
      refine mz ?_
      refine AWP.ret (blockA_r (thenA_r ?_))
      refine ρh ?_
      (unfold mayP; simp_all)
    simp at h8
    refine AWP.skip (blockA_n (thenA_n ?_))
    refine sr fun _ => ?_
    refine ρ5 U25 sz3 ?_
    refine ρa U3 ?_
    refine ρ2 ?_
    refine mv ?_
    refine ρc U25 sz3 ?_
    refine ρ8 U3 ?_
    refine ρ9 ?_
    refine ρ0 ?_
    refine mv ?_
    refine ρc U25 sz3 ?_
    refine ρ8 U3 ?_
    refine ρ9 ?_
    refine ρ0 ?_
    refine mv ?_
    refine ρc U25 sz23 ?_
    refine ρ8 U23 ?_
    refine ρn cf103 (fun hg => lines_fn c.lines hl) ?_
    refine ρ0 ?_
    refine mz ?_
    refine AWP.ret ?_
    refine ρh ?_
    (unfold mayP; simp_all)
  simp at h5
  refine sr fun _ => ?_
  refine ρ2 ?_
  refine mz ?_
  refine ρp (fun h9 => ?_) (fun h9 => ?_)
  · simp at h9
    refine AWP.skip (thenA_n ?_)
    refine ρp (fun h10 => ?_) (fun h10 => ?_)
    · simp at h10
      refine sr fun _ => ?_
      refine ρq U25 sz25 ?_
      refine ρm cf101 (fun hg => bare_fn c) ?_
      refine mv ?_
      refine ρc U25 sz3 ?_
      refine ρ8 U3 ?_
      refine ρn cf102 (fun hg => some_fn c.qty) ?_
      refine ρ0 ?_
      refine mz ?_
      refine AWP.ret (blockA_r (thenA_r ?_))
      refine ρh ?_
      (unfold mayP; simp_all)
    simp at h10
    refine sr fun _ => ?_
    refine ρ2 ?_
    refine mz ?_
    refine ρp (fun h11 => ?_) (fun h11 => ?_)
    · simp at h11
      refine sr fun _ => ?_
      refine ρ5 U25 sz3 ?_
      refine ρa U3 ?_
      refine ρm cf66 (fun hg => number_fn c.item) ?_
      refine mv ?_
      refine ρc U25 sz3 ?_
      refine ρ8 U3 ?_
      refine ρn cf66 (fun hg => number_fn c.to_) ?_
      refine ρ0 ?_
      refine mv ?_
      refine ρc U25 sz3 ?_
      refine ρ8 U3 ?_
      refine ρc U25 sz3 ?_
      refine ρ8 U3 ?_
      refine ρu ?_
      refine ρ0 ?_
      refine mv ?_
      refine ρc U25 sz3 ?_
      refine ρ8 U3 ?_
      refine ρn cf102 (fun hg => some_fn c.qty) ?_
      refine ρ0 ?_
      refine mv ?_
      refine ρc U25 sz23 ?_
      refine ρ8 U23 ?_
      refine ARun.lenSl rfl rfl rfl rfl U23 (Ev.opt rfl (fun h => h)) optS ?_
      refine ρ9 ?_
      refine ρ0 ?_
      refine mz ?_
      refine AWP.ret (blockA_r (thenA_r ?_))
      refine ρh ?_
      (unfold mayP; simp_all)
    simp at h11
    refine sr fun _ => ?_
    refine ρ2 ?_
    refine mz ?_
    refine ρp (fun h12 => ?_) (fun h12 => ?_)
    · simp at h12
      refine sr fun _ => ?_
      refine ρq U25 sz25 ?_
      refine ρm cf101 (fun hg => bare_fn c) ?_
      refine mv ?_
      refine ρc U25 sz3 ?_
      refine ρ8 U3 ?_
      refine ρ9 ?_
      refine ρ0 ?_
      refine mz ?_
      refine AWP.ret (blockA_r (thenA_r ?_))
      refine ρh ?_
      (unfold mayP; simp_all)
    simp at h12
    refine AWP.skip (blockA_n (thenA_n ?_))
    refine sr fun _ => ?_
    refine ρ5 U25 sz3 ?_
    refine ρa U3 ?_
    refine ρ2 ?_
    refine mv ?_
    refine ρc U25 sz3 ?_
    refine ρ8 U3 ?_
    refine ρ9 ?_
    refine ρ0 ?_
    refine mv ?_
    refine ρc U25 sz3 ?_
    refine ρ8 U3 ?_
    refine ρ9 ?_
    refine ρ0 ?_
    refine mv ?_
    refine ρc U25 sz23 ?_
    refine ρ8 U23 ?_
    refine ρn cf103 (fun hg => lines_fn c.lines hl) ?_
    refine ρ0 ?_
    refine mz ?_
    refine AWP.ret ?_
    refine ρh ?_
    (unfold mayP; simp_all)
  simp at h9
  refine AWP.region (fun _ => ?_)
  refine ρ2 ?_
  refine mz ?_
  refine ρp (fun h13 => ?_) (fun h13 => ?_)
  · simp at h13
    refine sr fun _ => ?_
    refine ρq U25 sz25 ?_
    refine ρm cf101 (fun hg => bare_fn c) ?_
    refine mv ?_
    refine ρc U25 sz3 ?_
    refine ρ8 U3 ?_
    refine ρn cf102 (fun hg => some_fn c.qty) ?_
    refine ρ0 ?_
    refine mz ?_
    refine AWP.ret (blockA_r (thenA_r ?_))
    refine ρh ?_
    (unfold mayP; simp_all)
  simp at h13
  refine sr fun _ => ?_
  refine ρ2 ?_
  refine mz ?_
  refine ρp (fun h14 => ?_) (fun h14 => ?_)
  · simp at h14
    refine sr fun _ => ?_
    refine ρ5 U25 sz3 ?_
    refine ρa U3 ?_
    refine ρm cf66 (fun hg => number_fn c.item) ?_
    refine mv ?_
    refine ρc U25 sz3 ?_
    refine ρ8 U3 ?_
    refine ρn cf66 (fun hg => number_fn c.to_) ?_
    refine ρ0 ?_
    refine mv ?_
    refine ρc U25 sz3 ?_
    refine ρ8 U3 ?_
    refine ρc U25 sz3 ?_
    refine ρ8 U3 ?_
    refine ρu ?_
    refine ρ0 ?_
    refine mv ?_
    refine ρc U25 sz3 ?_
    refine ρ8 U3 ?_
    refine ρn cf102 (fun hg => some_fn c.qty) ?_
    refine ρ0 ?_
    refine mv ?_
    refine ρc U25 sz23 ?_
    refine ρ8 U23 ?_
    refine ARun.lenSl rfl rfl rfl rfl U23 (Ev.opt rfl (fun h => h)) optS ?_
    refine ρ9 ?_
    refine ρ0 ?_
    refine mz ?_
    refine AWP.ret (blockA_r (thenA_r ?_))
    refine ρh ?_
    (unfold mayP; simp_all)
  simp at h14
  refine sr fun _ => ?_
  refine ρ2 ?_
  refine mz ?_
  refine ρp (fun h15 => ?_) (fun h15 => ?_)
  · simp at h15
    refine sr fun _ => ?_
    refine ρq U25 sz25 ?_
    refine ρm cf101 (fun hg => bare_fn c) ?_
    refine mv ?_
    refine ρc U25 sz3 ?_
    refine ρ8 U3 ?_
    refine ρ9 ?_
    refine ρ0 ?_
    refine mz ?_
    refine AWP.ret (blockA_r (thenA_r ?_))
    refine ρh ?_
    (unfold mayP; simp_all)
  simp at h15
  refine AWP.skip (blockA_n (thenA_n ?_))
  refine sr fun _ => ?_
  refine ρ5 U25 sz3 ?_
  refine ρa U3 ?_
  refine ρ2 ?_
  refine mv ?_
  refine ρc U25 sz3 ?_
  refine ρ8 U3 ?_
  refine ρ9 ?_
  refine ρ0 ?_
  refine mv ?_
  refine ρc U25 sz3 ?_
  refine ρ8 U3 ?_
  refine ρ9 ?_
  refine ρ0 ?_
  refine mv ?_
  refine ρc U25 sz23 ?_
  refine ρ8 U23 ?_
  refine ρn cf103 (fun hg => lines_fn c.lines hl) ?_
  refine ρ0 ?_
  refine mz ?_
  refine AWP.ret ?_
  refine ρh ?_
  (unfold mayP; simp_all)
set_option maxHeartbeats 1000000 in
theorem check_fn (c : Cl) (hl : c.lines.length ≤ 100000) : FnP Tryz.prog 28 [aCl c] (aEr (Er.new tCall (checkP c))) := by
  refine FnP.of Tryz.func28 rfl rfl (by simp) (by simp [AV.cells, aIn, aOut, aLn, aCl, aRp]) (fun G hG => ?_)
  have hN : NoH G.length (aEr (Er.new tCall (checkP c))) := (by simp [AV.cells, aIn, aOut, aLn, aCl, aRp])
  refine sr fun _ => ?_
  refine ρx ?_
  refine mz ?_
  refine AWP.seq (AWP.block ?_)
  refine sr fun _ => ?_
  refine ρ5 U25 sz3 ?_
  refine ρa U3 ?_
  refine ρ2 ?_
  refine mv ?_
  refine ρc U25 sz3 ?_
  refine ρ8 U3 ?_
  refine ρ9 ?_
  refine ρ3 ?_
  refine mz ?_
  refine ρp (fun h0 => ?_) (fun h0 => ?_)
  · simp at h0
    refine sr fun _ => ?_
    refine ρg cf62 (fun hg => new_fn tCall 30) ?_
    refine mz ?_
    refine AWP.ret (blockA_r (thenA_r ?_))
    refine ρh ?_
    rw [checkP, if_pos (by omega)]
  simp at h0
  refine sr fun _ => ?_
  refine ρ5 U25 sz3 ?_
  refine ρa U3 ?_
  refine ρm cf66 (fun hg => number_fn c.client) ?_
  refine ρC ?_
  refine mv ?_
  refine ρc U25 sz3 ?_
  refine ρ8 U3 ?_
  refine ρn cf66 (fun hg => number_fn c.seq) ?_
  refine ARun.not rfl rfl rfl rfl (Ev.opt rfl (fun h => h)) optS ?_
  refine ρ3 ?_
  refine mv ?_
  refine ARun.loadPeA rfl rfl rfl rfl U25 rfl sz25 (ep rfl) rfl optS ?_
  refine ρn cf67 (fun hg => may_fn c hl) ?_
  refine ARun.not rfl rfl rfl rfl (Ev.opt rfl (fun h => h)) optS ?_
  refine ρ3 ?_
  refine mz ?_
  refine ρp (fun h1 => ?_) (fun h1 => ?_)
  · simp at h1
    refine sr fun _ => ?_
    refine ρg cf62 (fun hg => new_fn tCall 2) ?_
    refine mz ?_
    refine AWP.ret (blockA_r (thenA_r ?_))
    refine ρh ?_
    rw [checkP, if_neg (by omega), if_neg (by simp; intro q1 q2; rcases h1 with (h1 | h1) | h1 <;> simp_all)]
  simp at h1
  refine AWP.skip (blockA_n (thenA_n ?_))
  refine sr fun _ => ?_
  refine mz ?_
  refine AWP.ret ?_
  refine ρh ?_
  rw [checkP, if_neg (by omega), if_pos (by simp [h1])]; rfl
set_option maxHeartbeats 1000000 in
theorem told_fn (e : Int) (l : List Int) (hl : l.length ≤ 100000) : FnP Tryz.prog 27 [.int .i64 e, .sl (l.map (AV.int .i64))] (aRp ⟨e, l⟩) := by
  refine FnP.of Tryz.func27 rfl rfl (by simp) (by simp [AV.cells, aIn, aOut, aLn, aCl, aRp]) (fun G hG => ?_)
  have hN : NoH G.length (aRp ⟨e, l⟩) := (by simp [AV.cells, aIn, aOut, aLn, aCl, aRp])
  refine sr fun _ => ?_
  refine ρo (j := 0) zv31 ?_
  refine ez ?_
  refine sr fun _ => ?_
  refine mv ?_
  refine mv ?_
  refine ρz cf65 ?_ (hF := fun hg => cloneI_fn l (by omega))
  refine ARun.build rfl rfl rfl rfl so31 (.cons (ep rfl) (.cons (ep rfl) .nil)) rfl rfl optN ?_
  refine ρ1 sz31 ?_
  refine ez ?_
  refine AWP.ret ?_
  refine endF.one (.inr rfl) rfl (.cellA rfl ((hG.at _ _).trans rfl) U31 rfl sz31 rfl rfl) ?_ hN
  rfl
set_option maxHeartbeats 1000000 in
theorem neg_fn (n : Int) : FnP Tryz.prog 114 [.int .i64 n] (.bool (decide (n < 0))) := by
  refine FnP.of Tryz.func114 rfl rfl (by simp) (by simp [AV.cells, aIn, aOut, aLn, aCl, aRp]) (fun G hG => ?_)
  have hN : NoH G.length (.bool (decide (n < 0))) := (by simp [AV.cells, aIn, aOut, aLn, aCl, aRp])
  refine sr fun _ => ?_
  refine mz ?_
  refine sr fun _ => ?_
  refine mv ?_
  refine ρ2 ?_
  refine mz ?_
  refine AWP.ret ?_
  refine ρh ?_
  rfl
set_option maxHeartbeats 1000000 in
theorem indexI (F : Nat) (fs cs : List AV) (p : Int → Bool) (l : List Int) (hl : l.length ≤ 9223372036854775807) (hcf : ∀ (vs : Array Value) (W : World), (callFunc F vs).run Tryz.prog W = .ok (.enter F vs) W) (hn : (∀ x, x ∈ fs → NoH 0 x) ∧ ∀ x, x ∈ cs → NoH 0 x) (hp : ∀ x, x ∈ l → FnP Tryz.prog F (fs ++ [(AV.int .i64) x] ++ cs) (.bool (p x))) : FnP Tryz.prog 144 [.sl (l.map (AV.int .i64)), .fn (.func F) fs cs] (.int .i64 (idxOf p l)) := by
  refine FnP.of Tryz.func144 rfl rfl (by simp) (by simp [AV.cells, aIn, aOut, aLn, aCl, aRp]) (fun G hG => ?_)
  have hN : NoH G.length (.int .i64 (idxOf p l)) := (by simp [AV.cells, aIn, aOut, aLn, aCl, aRp])
  refine sr fun _ => ?_
  refine mz ?_
  refine AWP.seq ?_
  refine sr fun _ => ?_
  refine mv ?_
  refine ρv U29 ?_
  refine mv ?_
  refine ez ?_
  refine AWP.block ?_
  refine AWP.rounds (fun k => k ≤ l.length ∧ ∀ j, j < k → p (l.getD j default) = false) (fun k => [(0, .sl (l.map (AV.int .i64))), (1, .fn (.func F) fs cs), (7, .int .i64 ((l.map (AV.int .i64)).length : Int)), (8, .int .i64 (k : Int))]) (fun k => []) (fun k => l.length - k) 0 0 ⟨by omega, fun j h => by omega⟩ (by repeat (first | exact .nil | refine .cons rfl ?_)) rfl (fun _ => rfl) (fun _ => ⟨by simp [AV.cells, aIn, aOut, aLn, aCl, aRp]; exact ⟨fun x hx => (hn.1 x hx).mono (by omega), fun x hx => (hn.2 x hx).mono (by omega)⟩, by simp⟩) (fun k hI => ?_)
  obtain ⟨hk, hno⟩ := hI
  refine sr fun _ => ?_
  refine ρ2 ?_
  refine ez ?_
  refine AWP.seq ?_
  refine ρp (fun h0 => ?_) (fun h0 => ?_)
  · try simp [-List.getD_eq_getElem?_getD] at h0
    refine AWP.skip (thenA_n ?_)
    refine AWP.seq (AWP.block ?_)
    refine sr fun _ => ?_
    refine mv ?_
    refine mz ?_
    refine sr fun _ => ?_
    refine mv ?_
    refine mv ?_
    refine mv ?_
    first | refine ρe U29 sz3 ?_ | refine ρ7 U29 sz3 ?_
    refine ρa U3 ?_
    refine ρz hcf ?_ (hF := fun hg => hp _ (by rw [List.getD, List.getElem?_eq_getElem h0]; exact List.getElem_mem h0))
    refine ez ?_
    refine ρp (fun h1 => ?_) (fun h1 => ?_)
    · try simp [-List.getD_eq_getElem?_getD] at h1
      refine sr fun _ => ?_
      refine mv ?_
      refine mz ?_
      refine AWP.ret (blockA_r ?_)
      refine thenA_r (thenA_r ?_)
      refine blockA_r (thenA_r ?_)
      refine ρh ?_
      rw [idx_hit h0 hno h1]
    try simp [-List.getD_eq_getElem?_getD] at h1
    refine AWP.skip (blockA_n (thenA_n ?_))
    refine AWP.region (fun _ => ?_)
    first | refine ρb ?_ | refine ρl ?_
    refine mv ?_
    refine ⟨_, _, rfl, hG, ?_⟩
    refine thenA_n ⟨rfl, k + 1, _, ?_, ?_, rfl, ?_⟩
    · refine ⟨by omega, fun j hj => ?_⟩
      by_cases e : j = k
      · subst e; exact h1
      exact hno j (by omega)
    · repeat (first | exact .nil | refine .cons rfl ?_)
    omega
  try simp [-List.getD_eq_getElem?_getD] at h0
  refine AWP.exit ?_
  refine thenA_x ?_
  refine thenA_x ?_
  refine blockA_h ?_
  refine thenA_n ?_
  refine sr fun _ => ?_
  refine mz ?_
  refine AWP.ret ?_
  refine ρh ?_
  rw [idx_none (fun j hj => hno j (by omega))]; rfl
set_option maxHeartbeats 1000000 in
theorem containsI (F : Nat) (fs cs : List AV) (p : Int → Bool) (l : List Int) (hl : l.length ≤ 9223372036854775807) (hcf : ∀ (vs : Array Value) (W : World), (callFunc F vs).run Tryz.prog W = .ok (.enter F vs) W) (hn : (∀ x, x ∈ fs → NoH 0 x) ∧ ∀ x, x ∈ cs → NoH 0 x) (hp : ∀ x, x ∈ l → FnP Tryz.prog F (fs ++ [(AV.int .i64) x] ++ cs) (.bool (p x))) : FnP Tryz.prog 115 [.sl (l.map (AV.int .i64)), .fn (.func F) fs cs] (.bool (l.any p)) := by
  refine FnP.of Tryz.func115 rfl rfl (by simp) (by simp [AV.cells, aIn, aOut, aLn, aCl, aRp]) (fun G hG => ?_)
  have hN : NoH G.length (.bool (l.any p)) := (by simp [AV.cells, aIn, aOut, aLn, aCl, aRp])
  refine sr fun _ => ?_
  refine mz ?_
  refine sr fun _ => ?_
  refine mv ?_
  refine mv ?_
  refine ρg cf144 (fun hg => indexI F fs cs p l hl hcf hn hp) ?_
  refine ρ2 ?_
  refine mz ?_
  refine AWP.ret ?_
  refine ρh ?_
  rw [← any_idx]
set_option maxHeartbeats 1000000 in
theorem putR_c (c : Rp) (hl : c.nums.length ≤ 100000) (hf : ∀ x, x ∈ c.nums → -9223372036854775808 ≤ x ∧ x ≤ 9223372036854775807) : FnP Tryz.prog 80 [aRp c] (.tup [.str (putR c), aEr (Er.new tReply (repE c))]) := by
  refine FnP.of Tryz.func80 rfl rfl (by simp) (by simp [AV.cells, aIn, aOut, aLn, aCl, aRp]) (fun G hG => ?_)
  have hN : NoH G.length (.tup [.str (putR c), aEr (Er.new tReply (repE c))]) := (by simp [AV.cells, aIn, aOut, aLn, aCl, aRp])
  refine sr fun _ => ?_
  refine ρx ?_
  refine ma ?_
  refine mz ?_
  refine sr fun _ => ?_
  refine mz ?_
  refine AWP.seq ?_
  refine sr fun _ => ?_
  refine ρ5 U31 sz28 ?_
  refine ρa U28 ?_
  refine ρ2 ?_
  refine mv ?_
  refine ρc U31 sz28 ?_
  refine ρ8 U28 ?_
  refine ρ9 ?_
  refine ρ3 ?_
  refine mv ?_
  refine ρc U31 sz29 ?_
  refine ρ8 U29 ?_
  refine ARun.lenSl rfl rfl rfl rfl U29 (Ev.opt rfl (fun h => h)) optS ?_
  refine ρ9 ?_
  refine ρ3 ?_
  refine mv ?_
  refine ρc U31 sz29 ?_
  refine ρ8 U29 ?_
  refine ρk ?_
  refine ARun.call rfl rfl rfl rfl cf115 (ep rfl) (.cons (Ev.opt rfl (fun h => h)) (.cons (Ev.opt rfl (fun h => h)) .nil)) rfl (fun hg => containsI 114 [] [] (fun n => decide (n < 0)) c.nums (by omega) cf114 (by simp) (fun x _ => neg_fn x)) optS ?_
  refine ρ3 ?_
  refine ez ?_
  refine ρp (fun h0 => ?_) (fun h0 => ?_)
  · rw [any_neg] at h0
    simp at h0
    refine sr fun _ => ?_
    refine ρg cf62 (fun hg => new_fn tReply 2) ?_
    refine ma ?_
    refine mz ?_
    refine AWP.ret (thenA_r ?_)
    refine ρf (rs := [.tmp 2, .tmp 3]) (.cons (.tmp rfl) (.cons (.tmp rfl) .nil)) ?_
    have he : repE c = 2 := by rw [repE, if_pos (by rcases h0 with ((h0 | h0) | h0) | h0 <;> first | exact .inr (.inr (.inr h0)) | omega)]
    rw [putR, if_neg (by omega), he]; rfl
  rw [any_neg] at h0
  simp at h0
  have he : repE c = 0 := by rw [repE, if_neg (by simp [h0]; omega)]
  have hlay := layR_ok he
  have hwl := wrNums_len [c.code] WrS.new
  have hwl3 : WrS.new.s.length = 0 := rfl
  simp only [List.length_cons, List.length_nil] at hwl
  refine AWP.skip (thenA_n ?_)
  refine sr fun _ => ?_
  refine ARun.allocBld (j := 0) (e := 5) hG rfl rfl rfl rfl rfl zv172 rfl rfl rfl optN ?_
  refine ez ?_
  refine sr fun _ => ?_
  refine ρ5 U31 sz28 ?_
  refine ρa U28 ?_
  refine ρA U29 sz3 zv3 ?_
  refine ARun.callSet (j := 0) hG rfl rfl rfl rfl cf116 (ep rfl) (.cons (ep rfl) (.cons (ep rfl) .nil)) rfl (nums_w WrS.new [c.code] (by simp) (by simp [WrS.new]) (fit_one (by omega)) _ _ ((hG.at _ _).trans rfl)) rfl optN ?_
  refine ez ?_
  refine sr fun _ => ?_
  refine ρ5 U31 sz29 ?_
  refine ρa U29 ?_
  refine ARun.callSet (j := 0) hG rfl rfl rfl rfl cf117 (ep rfl) (.cons (ep rfl) (.cons (ep rfl) .nil)) rfl (row_w (wrNums WrS.new [c.code]) c.nums (by omega) (by omega) hf _ _ ((hG.at _ _).trans rfl)) rfl optN ?_
  refine ez ?_
  refine sr fun _ => ?_
  refine ARun.callSet (j := 0) hG rfl rfl rfl rfl cf118 (ep rfl) (.cons (ep rfl) .nil) rfl (done_w (layR c) _ _ ((hG.at _ _).trans rfl)) rfl optN ?_
  refine ρ6 ?_
  refine ρ6 ?_
  refine ma ?_
  refine mz ?_
  refine AWP.ret ?_
  refine ρf (rs := [.tmp 2, .tmp 3]) (.cons (.tmp rfl) (.cons (.tmp rfl) .nil)) ?_
  rw [putR, if_pos he, hlay, he]; rfl
set_option maxHeartbeats 1000000 in
theorem take_c (s : ByteArray) (hs : s.size ≤ 1000000) : FnP Tryz.prog 23 [.str s] (.tup [aCl (takeC s), aEr (takeErr s)]) := by
  have hrl := rdRow_len (sixR s 6) 10
  refine FnP.of Tryz.func23 rfl rfl (by simp) (by simp [AV.cells, aIn, aOut, aLn, aCl, aRp]) (fun G hG => ?_)
  have hN : NoH G.length (.tup [aCl (takeC s), aEr (takeErr s)]) := (by simp [AV.cells, aIn, aOut, aLn, aCl, aRp])
  refine sr fun _ => ?_
  refine ρo (j := 0) zv25 ?_
  refine mz ?_
  refine sr fun _ => ?_
  refine mv ?_
  refine ARun.callNewB (j := 1) hG rfl rfl rfl rfl rfl cf56 (ep rfl) (.cons (ep rfl) .nil) rfl (newr_fn s) optN ?_
  refine mz ?_
  refine sr fun _ => ?_
  refine mv ?_
  refine ARun.makeFunc rfl rfl rfl rfl (.cons (ep rfl) .nil) .nil optN ?_
  refine mz ?_
  refine sr fun _ => ?_
  refine mv ?_
  refine ARun.callSet (j := 1) hG rfl rfl rfl rfl cf57 (ep rfl) (.cons (ep rfl) .nil) rfl (num_r (sixR s 0) 2000000 (sixR_ok hs 0) _ _ ((hG.at _ _).trans rfl)) rfl optN ?_
  refine mv ?_
  refine ARun.callSet (j := 1) hG rfl rfl rfl rfl cf57 (ep rfl) (.cons (ep rfl) .nil) rfl (num_r (sixR s 1) 2000000 (sixR_ok hs 1) _ _ ((hG.at _ _).trans rfl)) rfl optN ?_
  refine mv ?_
  refine ARun.callSet (j := 1) hG rfl rfl rfl rfl cf57 (ep rfl) (.cons (ep rfl) .nil) rfl (num_r (sixR s 2) 2000000 (sixR_ok hs 2) _ _ ((hG.at _ _).trans rfl)) rfl optN ?_
  refine mv ?_
  refine ARun.callSet (j := 1) hG rfl rfl rfl rfl cf57 (ep rfl) (.cons (ep rfl) .nil) rfl (num_r (sixR s 3) 2000000 (sixR_ok hs 3) _ _ ((hG.at _ _).trans rfl)) rfl optN ?_
  refine mv ?_
  refine ARun.callSet (j := 1) hG rfl rfl rfl rfl cf57 (ep rfl) (.cons (ep rfl) .nil) rfl (num_r (sixR s 4) 2000000 (sixR_ok hs 4) _ _ ((hG.at _ _).trans rfl)) rfl optN ?_
  refine mv ?_
  refine ARun.callSet (j := 1) hG rfl rfl rfl rfl cf57 (ep rfl) (.cons (ep rfl) .nil) rfl (num_r (sixR s 5) 2000000 (sixR_ok hs 5) _ _ ((hG.at _ _).trans rfl)) rfl optN ?_
  refine ARun.buildNil (e := 108) (z := 2) (j := 2) (p := 6) hG rfl rfl rfl rfl rfl so25 rfl (.cons (ep rfl) (.cons (ep rfl) (.cons (ep rfl) (.cons (ep rfl) (.cons (ep rfl) (.cons (ep rfl) .nil)))))) rfl rfl optN ?_
  refine ρo (j := 3) zv25 ?_
  refine ρ1 sz25 ?_
  refine ez ?_
  refine sr fun _ => ?_
  refine mv ?_
  refine ARun.callSet (j := 1) hG rfl rfl rfl rfl cf58 (ep rfl) (.cons (ep rfl) (.cons (ep rfl) .nil)) rfl (row_r (sixR s 6) 10 (sixR_ok hs 6) _ _ ((hG.at _ _).trans rfl)) rfl optN ?_
  refine mz ?_
  refine sr fun _ => ?_
  refine mv ?_
  refine ARun.callSet (j := 1) hG rfl rfl rfl rfl cf59 (ep rfl) (.cons (ep rfl) .nil) rfl (end_r (rdRow (sixR s 6) 10).1 (rdRow_ok (sixR_ok hs 6) _) _ _ ((hG.at _ _).trans rfl)) rfl optN ?_
  refine ez ?_
  refine AWP.seq ?_
  refine sr fun _ => ?_
  refine mv ?_
  refine ARun.callR rfl rfl rfl rfl cf60 (ep rfl) (.cons (ep rfl) .nil) rfl (fun hg => FnM.keep (rdone_fn (rdCall s).1) ((hG.at _ _).trans rfl)) optN ?_
  refine mz ?_
  refine sr fun _ => ?_
  refine mv ?_
  refine ARun.isNil rfl rfl rfl rfl U53 (ep rfl) (fun hg => by first | rfl | exact nilA_aEr _) (.inr ⟨rfl, rfl⟩) optN ?_
  refine ez ?_
  refine ρp (fun h0 => ?_) (fun h0 => ?_)
  · have he : (rdCall s).1.e ≠ 0 := by simpa [errOf_none] using h0
    refine sr fun _ => ?_
    refine ARun.build rfl rfl rfl rfl so25 .nil rfl rfl optN ?_
    refine mv ?_
    refine ρg cf61 (fun hg => wrap_fn tTake (errOf tRead (rdCall s).1.p (rdCall s).1.e)) ?_
    refine ρ1 sz25 ?_
    refine mz ?_
    refine AWP.ret (thenA_r ?_)
    refine ρf (rs := [.cell 2 25, .tmp 3]) (.cons (.cellA rfl ((hG.at _ _).trans rfl) U25 rfl sz25 rfl rfl) (.cons (.tmp rfl) .nil)) ?_
    have ht : takeE s ≠ 0 := by rw [takeE, if_pos he]; exact he
    rw [takeC, if_neg ht, takeErr, if_pos he]; rfl
  have he : (rdCall s).1.e = 0 := by simpa [errOf_none] using h0
  refine AWP.skip (thenA_n (AWP.seq ?_))
  refine sr fun _ => ?_
  refine mv ?_
  refine ρv U29 ?_
  refine ARun.remI rfl rfl rfl rfl (ep rfl) (ep rfl) (fun _ => by decide) optN ?_
  refine ρ2 ?_
  refine ez ?_
  refine ρp (fun h1 => ?_) (fun h1 => ?_)
  · simp at h1
    have h1p : (((rdRow (sixR s 6) 10).2.length % 2 : Nat) : Int) ≠ 0 := h1
    refine sr fun _ => ?_
    refine ARun.build rfl rfl rfl rfl so25 .nil rfl rfl optN ?_
    refine ρg cf62 (fun hg => new_fn tTake 5) ?_
    refine ρ1 sz25 ?_
    refine mz ?_
    refine AWP.ret (thenA_r ?_)
    refine ρf (rs := [.cell 2 25, .tmp 3]) (.cons (.cellA rfl ((hG.at _ _).trans rfl) U25 rfl sz25 rfl rfl) (.cons (.tmp rfl) .nil)) ?_
    have h1q : (rdCall s).2.2.length % 2 = 1 := by show (rdRow (sixR s 6) 10).2.length % 2 = 1; omega
    have ht : takeE s ≠ 0 := by rw [takeE, if_neg (by omega), if_pos h1q]; decide
    rw [takeC, if_neg ht, takeErr, if_neg (by omega), if_pos h1q]; rfl
  simp at h1
  have h1p : (((rdRow (sixR s 6) 10).2.length % 2 : Nat) : Int) = 0 := h1
  refine AWP.skip (thenA_n (AWP.seq ?_))
  refine sr fun _ => ?_
  refine mz ?_
  refine AWP.block ?_
  refine AWP.rounds (fun st => 2 * st.1 ≤ (rdRow (sixR s 6) 10).2.length) (fun st => [(2, .box (G.length + 0) 0), (6, .box (G.length + 3) 0), (7, .sl ((rdRow (sixR s 6) 10).2.map (AV.int .i64))), (9, .int .i64 ((2 * st.1 : Nat) : Int))]) (fun st => [.box [.int .i64 0, .int .i64 0, .int .i64 0, .int .i64 0, .int .i64 0, .int .i64 0, .sl []], .box (aRd (rdCall s).1), .row st.2 108 2 ((pairsL ((rdRow (sixR s 6) 10).2.take (2 * st.1))).map aLn), .box [.int .i64 (sixN s 0), .int .i64 (sixN s 1), .int .i64 (sixN s 2), .int .i64 (sixN s 3), .int .i64 (sixN s 4), .int .i64 (sixN s 5), .own (G.length + 2) st.2]]) (fun st => (rdRow (sixR s 6) 10).2.length - 2 * st.1) 4 ((0, 0) : Nat × Nat) (Nat.zero_le _) (by repeat (first | exact .nil | refine .cons rfl ?_)) rfl (fun _ => rfl) (fun _ => ⟨by simp [AV.cells], by simp [AO.conts, aRd, aLn, AV.cells]; rintro y a _ (rfl | rfl) <;> simp⟩) (fun st hI => ?_)
  obtain ⟨k, g⟩ := st
  dsimp only at hI
  show AWP _ _ _ _ _ [(2, .box (G.length + 0) 0), (6, .box (G.length + 3) 0), (7, .sl ((rdRow (sixR s 6) 10).2.map (AV.int .i64))), (9, .int .i64 ((2 * k : Nat) : Int))] _ [.box [.int .i64 0, .int .i64 0, .int .i64 0, .int .i64 0, .int .i64 0, .int .i64 0, .sl []], .box (aRd (rdCall s).1), .row g 108 2 ((pairsL ((rdRow (sixR s 6) 10).2.take (2 * k))).map aLn), .box [.int .i64 (sixN s 0), .int .i64 (sixN s 1), .int .i64 (sixN s 2), .int .i64 (sixN s 3), .int .i64 (sixN s 4), .int .i64 (sixN s 5), .own (G.length + 2) g]]
  refine AWP.seq ?_
  refine sr fun _ => ?_
  refine mv ?_
  refine mv ?_
  refine ρv U29 ?_
  refine ρ2 ?_
  refine ez ?_
  refine ρp (fun h2 => ?_) (fun h2 => ?_)
  · try simp [-List.getD_eq_getElem?_getD] at h2
    refine AWP.skip (thenA_n ?_)
    refine AWP.seq (AWP.block ?_)
    refine AWP.draw mixed (by kernel_rfl) (fun _ => ?_)
    refine ρ4 (fo := 6) U25 sz23 ?_
    refine ρd U23 ?_
    refine mv ?_
    refine mv ?_
    first | refine ρe U29 sz3 ?_ | refine ρ7 U29 sz3 ?_
    refine ρa U3 ?_
    refine mv ?_
    refine mv ?_
    first | refine ρb ?_ | refine ρl ?_
    first | refine ρe U29 sz3 ?_ | refine ρ7 U29 sz3 ?_
    refine ρa U3 ?_
    refine ARun.build rfl rfl rfl rfl so108 (.cons (ep rfl) (.cons (ep rfl) .nil)) rfl rfl optN ?_
    refine ρA U23 sz108 zv108 ?_
    refine ARun.appendL hG rfl rfl rfl rfl U23 ti108 rfl (by decide) (ep rfl) (ep rfl) rfl rfl (by have := pairsL_len (((rdRow (sixR s 6) 10).2).take (2 * k)); simp only [List.length_take] at this; simp [maxLen]; omega) (by have := pairsL_len (((rdRow (sixR s 6) 10).2).take (2 * k)); simp only [List.length_take] at this; simp; omega) (pair_snoc (rdRow (sixR s 6) 10).2 k (by omega)) optN rfl ?_
    refine ρ4 (fo := 6) U25 sz23 ?_
    refine ρs sz23 ?_
    refine ⟨by kernel_rfl, _, _, rfl, hG, ?_⟩
    refine blockA_n (thenA_n ?_)
    refine AWP.region (fun _ => ?_)
    refine mv ?_
    first | refine ρb ?_ | refine ρl ?_
    refine ma ?_
    refine ⟨_, _, rfl, hG, ?_⟩
    refine thenA_n ⟨rfl, (k + 1, g + 1), _, ?_, ?_, rfl, ?_⟩
    · dsimp only; omega
    · repeat (first | exact .nil | refine .cons rfl ?_)
    dsimp only; omega
  simp at h2
  have hk2 : 2 * k = (rdRow (sixR s 6) 10).2.length := by omega
  rw [hk2, List.take_length]
  refine AWP.exit ?_
  refine thenA_x ?_
  refine thenA_x ?_
  refine blockA_h ?_
  refine thenA_n ?_
  refine AWP.seq (AWP.seq ?_)
  refine AWP.frzIn (j := 2) (q := 3) (p := 6) hG rfl (by have := pairsL_len (rdRow (sixR s 6) 10).2; have := rdRow_len (sixR s 6) 10; simp [maxLen]; omega) rfl rfl rfl ?_
  refine AWP.region (fun _ => ?_)
  refine ρi U25 sz25 ?_
  refine ρz cf28 ?_ (hF := fun hg => check_fn (mkCall (sixL s) (rdRow (sixR s 6) 10).2) (by have := pairsL_len (rdRow (sixR s 6) 10).2; show (pairsL (rdRow (sixR s 6) 10).2).length ≤ _; omega))
  refine mz ?_
  refine sr fun _ => ?_
  refine mv ?_
  refine ARun.isNil rfl rfl rfl rfl U53 (ep rfl) (fun hg => by first | rfl | exact nilA_aEr _) (.inr ⟨rfl, rfl⟩) optN ?_
  refine ez ?_
  refine ρp (fun h3 => ?_) (fun h3 => ?_)
  · simp [new_none] at h3
    refine sr fun _ => ?_
    refine ARun.build rfl rfl rfl rfl so25 .nil rfl rfl optN ?_
    refine mv ?_
    refine ρg cf61 (fun hg => wrap_fn tTake (Er.new tCall (checkP (mkCall (sixL s) (rdRow (sixR s 6) 10).2)))) ?_
    refine ρ1 sz25 ?_
    refine mz ?_
    refine AWP.ret (thenA_r ?_)
    refine ρf (rs := [.cell 2 25, .tmp 3]) (.cons (.cellA rfl ((hG.at _ _).trans rfl) U25 rfl sz25 rfl rfl) (.cons (.tmp rfl) .nil)) ?_
    have h1q : ¬ (rdCall s).2.2.length % 2 = 1 := by show ¬ (rdRow (sixR s 6) 10).2.length % 2 = 1; omega
    have ht : takeE s ≠ 0 := by rw [takeE, if_neg (by omega), if_neg h1q]; exact h3
    rw [takeC, if_neg ht, takeErr, if_neg (by omega), if_neg h1q]; rfl
  simp [new_none] at h3
  refine AWP.skip (thenA_n ?_)
  refine sr fun _ => ?_
  refine ρi U25 sz25 ?_
  refine ρ1 sz25 ?_
  refine mz ?_
  refine AWP.ret ?_
  refine ρf (rs := [.cell 2 25, .tmp 3]) (.cons (.cellA rfl ((hG.at _ _).trans rfl) U25 rfl sz25 rfl rfl) (.cons (.tmp rfl) .nil)) ?_
  have h1q : ¬ (rdCall s).2.2.length % 2 = 1 := by show ¬ (rdRow (sixR s 6) 10).2.length % 2 = 1; omega
  have ht : takeE s = 0 := by rw [takeE, if_neg (by omega), if_neg h1q]; exact h3
  rw [takeC, if_pos ht, takeErr, if_neg (by omega), if_neg h1q, show checkP (mkCall (rdCall s).2.1 (rdCall s).2.2) = 0 from h3]; rfl
end Go.Proofs.YtgebpndhnkkbgaaGreatDoor
namespace Go.Proofs.YtgebpndhnkkbgaaGreatDoor.Stk
set_option linter.unusedVariables false
set_option linter.unusedSimpArgs false
open Go.RowKit
open StockP
set_option maxRecDepth 100000
abbrev holdF (ys : List It) (i q : Int) : List It × Int := withP (holdG q) ys i q
theorem ln_get {m : List Ln} {k : Nat} (h : k < m.length) : m.getD k default = m[k] := by simp [List.getD, h]
theorem stepL (m : List Ln) (k : Nat) (h : k < m.length) : okLFrom 0 (m.take (k + 1)) = (okLFrom 0 (m.take k) && decide (lastL 0 (m.take k) < (m.getD k default).item ∧ (m.getD k default).item ≤ 99999 ∧ 1 ≤ (m.getD k default).qty ∧ (m.getD k default).qty ≤ 1000000)) := by
  rw [ln_get h, show m.take (k + 1) = m.take k ++ [m[k]] by simp]; exact okLFrom_snoc _ _ _
theorem lastL_at (m : List Ln) (k : Nat) (h : k < m.length) : lastL 0 (m.take (k + 1)) = (m.getD k default).item := by
  rw [ln_get h, show m.take (k + 1) = m.take k ++ [m[k]] by simp]; exact lastL_snoc _ _ _
theorem lastL_prev (m : List Ln) (k : Nat) (h : k ≤ m.length) : (0 < k → lastL 0 (m.take k) = (m.getD (k - 1) default).item) ∧ (k = 0 → lastL 0 (m.take k) = 0) := by
  refine ⟨fun h0 => ?_, fun h0 => ?_⟩
  · rw [← lastL_at m (k - 1) (by omega), show k - 1 + 1 = k by omega]
  subst h0; rfl
theorem lastL_ge (l : List Ln) : ∀ p, okLFrom p l = true → p ≤ lastL p l := by
  induction l with
  | nil => intro p _; exact Int.le_refl _
  | cons x l ih =>
    intro p h
    simp only [okLFrom, Bool.and_eq_true, decide_eq_true_eq] at h
    have := ih _ h.2
    show p ≤ lastL x.item l
    omega
theorem okLE_bad {m : List Ln} {k : Nat} (h : okLFrom 0 (m.take (k + 1)) = false) : okLE m = 2 := by
  unfold okLE okL; rw [okLFrom_cut h]; simp
theorem okLE_big {m : List Ln} (h : m.length < 1 ∨ 5 < m.length) : okLE m = 2 := by
  unfold okLE okL; rw [decide_eq_false (by omega)]; simp
theorem okLE_good {m : List Ln} (h : 1 ≤ m.length ∧ m.length ≤ 5) (h2 : okLFrom 0 (m.take m.length) = true) : okLE m = 0 := by
  rw [List.take_length] at h2
  unfold okLE okL; rw [decide_eq_true h, h2]; simp
theorem okLE_ok {m : List Ln} : okLE m = 0 ↔ okL m = true := by unfold okLE; split <;> simp_all
theorem okL_len {m : List Ln} (h : okL m = true) : 1 ≤ m.length ∧ m.length ≤ 5 := by unfold okL at h; simp at h; exact h.1
theorem okL_at {m : List Ln} (h : okL m = true) {k : Nat} (hk : k < m.length) : 1 ≤ (m.getD k default).qty ∧ (m.getD k default).qty ≤ 1000000 := by
  have h2 : okLFrom 0 m = true := by unfold okL at h; simp at h; exact h.2
  have := okLFrom_mem h2 m[k] (List.getElem_mem hk)
  rw [ln_get hk]; omega
theorem sumF_at (m : List Ln) (k : Nat) (h : k < m.length) : sumF (m.take (k + 1)) = sumF (m.take k) + (m.getD k default).qty := by
  rw [ln_get h, show m.take (k + 1) = m.take k ++ [m[k]] by simp]; exact sumF_snoc _ _
theorem sumF_bd {m : List Ln} (h : okL m = true) : ∀ k, k ≤ m.length → 0 ≤ sumF (m.take k) ∧ sumF (m.take k) ≤ 1000000 * (k : Int) := by
  intro k
  induction k with
  | zero => intro _; simp [sumF]
  | succ k ih =>
    intro hk
    have h1 := ih (by omega)
    have h2 := okL_at h (k := k) (by omega)
    rw [sumF_at m k (by omega)]; omega
theorem goes_step {fn : List It → Int → Int → List It × Int} {cur : List It} {m : List Ln} {k : Nat} (h : k < m.length) : goesP fn k cur (m.drop k) = if (fn cur (m.getD k default).item (m.getD k default).qty).2 ≠ 0 then ([], (k : Int), (fn cur (m.getD k default).item (m.getD k default).qty).2) else goesP fn ((k + 1 : Nat) : Int) (fn cur (m.getD k default).item (m.getD k default).qty).1 (m.drop (k + 1)) := by
  rw [List.drop_eq_getElem_cons h, ← ln_get h, goesP_cons]; rfl
theorem goes_end {fn : List It → Int → Int → List It × Int} {cur : List It} {m : List Ln} : goesP fn m.length cur (m.drop m.length) = (cur, (m.length : Int), 0) := by
  rw [List.drop_length]; rfl
theorem hold_len (l : List It) (i q : Int) : (holdF l i q).1.length ≤ l.length := with_len (holdG q) l i q
theorem allP_no {fn : List It → Int → Int → List It × Int} {l : List It} {m : List Ln} (h : ¬ (ok l = true ∧ okL m = true)) : allP fn l m = ([], 0, 2) := if_neg h
theorem allP_yes {fn : List It → Int → Int → List It × Int} {l : List It} {m : List Ln} (h : ok l = true ∧ okL m = true) : allP fn l m = goesP fn 0 l m := if_pos h
set_option maxHeartbeats 1000000 in
theorem checkL_fn (m : List Ln) : FnP Tryz.prog 137 [.sl (m.map aLn)] (.int .i64 (okLE m)) := by
  refine FnP.of Tryz.func137 rfl rfl (by simp) (by simp [AV.cells, aIt, aLn]) (fun G hG => ?_)
  have hN : NoH G.length (.int .i64 (okLE m)) := (by simp [AV.cells, aIt, aLn])
  refine sr fun _ => ?_
  refine mz ?_
  refine AWP.seq ?_
  refine sr fun _ => ?_
  refine mv ?_
  refine ρv U23 ?_
  refine ρ2 ?_
  refine mv ?_
  refine ρk ?_
  refine ARun.lenSl rfl rfl rfl rfl U23 (Ev.opt rfl (fun h => h)) optS ?_
  refine ρ9 ?_
  refine ρ3 ?_
  refine ez ?_
  refine ρp (fun h0 => ?_) (fun h0 => ?_)
  · simp only [Bool.or_eq_true, decide_eq_true_eq, List.length_map] at h0
    refine sr fun _ => ?_
    refine mz ?_
    refine AWP.ret (thenA_r ?_)
    refine ρh ?_
    rw [okLE_big (by omega)]; rfl
  simp only [Bool.or_eq_false_iff, decide_eq_false_iff_not, List.length_map] at h0
  refine AWP.skip (thenA_n ?_)
  refine sr fun _ => ?_
  refine mz ?_
  refine AWP.seq ?_
  refine sr fun _ => ?_
  refine mv ?_
  refine ρv U23 ?_
  refine mv ?_
  refine ez ?_
  refine AWP.block ?_
  refine AWP.rounds (fun k => k ≤ m.length ∧ okLFrom 0 (m.take k) = true) (fun k => [(3, .int .i64 (lastL 0 (m.take k))), (14, .sl (m.map aLn)), (15, .int .i64 ((m.map aLn).length : Int)), (16, .int .i64 (k : Int))]) (fun k => []) (fun k => m.length - k) 0 0 ⟨by omega, rfl⟩ (by repeat (first | exact .nil | refine .cons rfl ?_)) rfl (fun _ => rfl) (fun _ => (by simp [AO.conts, AV.cells, aIt, aLn])) (fun k hI => ?_)
  obtain ⟨hk, hok⟩ := hI
  refine sr fun _ => ?_
  refine ρ2 ?_
  refine ez ?_
  refine AWP.seq ?_
  refine ρp (fun h1 => ?_) (fun h1 => ?_)
  · try simp [-List.getD_eq_getElem?_getD] at h1
    refine AWP.skip (thenA_n ?_)
    refine AWP.seq (AWP.block ?_)
    refine sr fun _ => ?_
    first | refine ρe U23 sz108 ?_ | refine ρ7 U23 sz108 ?_
    refine ρq U108 sz108 ?_
    refine ρo (j := 0) zv108 ?_
    refine ρ1 sz108 ?_
    refine ez ?_
    refine AWP.seq ?_
    refine sr fun _ => ?_
    refine ρ4 (fo := 0) U108 sz3 ?_
    refine ρd U3 ?_
    refine mv ?_
    refine ρ2 ?_
    refine mv ?_
    refine ρt (fo := 0) U108 sz3 ?_
    refine ρr U3 ?_
    refine ρ9 ?_
    refine ρ3 ?_
    refine mv ?_
    refine ρt (fo := 1) U108 sz3 ?_
    refine ρr U3 ?_
    refine ρ9 ?_
    refine ρ3 ?_
    refine mv ?_
    refine ρt (fo := 1) U108 sz3 ?_
    refine ρr U3 ?_
    refine ρ9 ?_
    refine ρ3 ?_
    refine ez ?_
    refine ρp (fun h2 => ?_) (fun h2 => ?_)
    · simp [-List.getD_eq_getElem?_getD] at h2
      have hst := stepL m k (by omega)
      have hln := lastL_ge (m.take k) 0 hok
      rw [decide_eq_false (by omega), Bool.and_false] at hst
      refine sr fun _ => ?_
      refine mz ?_
      refine AWP.ret (thenA_r ?_)
      refine blockA_r (thenA_r ?_)
      refine thenA_r (blockA_r (thenA_r ?_))
      refine ρh ?_
      rw [okLE_bad hst]; rfl
    simp [-List.getD_eq_getElem?_getD] at h2
    have hst := stepL m k (by omega)
    rw [decide_eq_true (by omega), hok, Bool.true_and] at hst
    refine AWP.skip (thenA_n ?_)
    refine AWP.region (fun _ => ?_)
    refine ρ4 (fo := 0) U108 sz3 ?_
    refine ρd U3 ?_
    refine ma ?_
    refine ⟨_, _, rfl, hG, ?_⟩
    refine blockA_n (thenA_n ?_)
    refine AWP.region (fun _ => ?_)
    first | refine ρb ?_ | refine ρl ?_
    refine mv ?_
    refine ⟨_, _, rfl, hG, ?_⟩
    refine thenA_n ⟨rfl, k + 1, _, ?_, ?_, rfl, ?_⟩
    · exact ⟨by omega, hst⟩
    · rw [lastL_at m k (by omega)]
      repeat (first | exact .nil | refine .cons rfl ?_)
    omega
  simp at h1
  obtain rfl : k = m.length := by omega
  refine AWP.exit ?_
  refine thenA_x ?_
  refine thenA_x ?_
  refine blockA_h ?_
  refine thenA_n ?_
  refine sr fun _ => ?_
  refine mz ?_
  refine AWP.ret ?_
  refine ρh ?_
  rw [okLE_good (by omega) hok]; rfl
set_option maxHeartbeats 1000000 in
theorem checkLR_fn (m : List Ln) : FnP Tryz.prog 77 [.sl (m.map aLn)] (.int .i64 (okLE m)) := by
  refine FnP.of Tryz.func77 rfl rfl (by simp) (by simp [AV.cells, aIt, aLn]) (fun G hG => ?_)
  have hN : NoH G.length (.int .i64 (okLE m)) := (by simp [AV.cells, aIt, aLn])
  refine sr fun _ => ?_
  refine mz ?_
  refine AWP.seq ?_
  refine sr fun _ => ?_
  refine mv ?_
  refine ρv U23 ?_
  refine ρ2 ?_
  refine mv ?_
  refine ρk ?_
  refine ARun.lenSl rfl rfl rfl rfl U23 (Ev.opt rfl (fun h => h)) optS ?_
  refine ρ9 ?_
  refine ρ3 ?_
  refine ez ?_
  refine ρp (fun h0 => ?_) (fun h0 => ?_)
  · simp only [Bool.or_eq_true, decide_eq_true_eq, List.length_map] at h0
    refine sr fun _ => ?_
    refine mz ?_
    refine AWP.ret (thenA_r ?_)
    refine ρh ?_
    rw [okLE_big (by omega)]; rfl
  simp only [Bool.or_eq_false_iff, decide_eq_false_iff_not, List.length_map] at h0
  refine AWP.skip (thenA_n (AWP.seq ?_))
  refine sr fun _ => ?_
  refine mz ?_
  refine AWP.block ?_
  refine AWP.rounds (fun k => k ≤ m.length ∧ okLFrom 0 (m.take k) = true) (fun k => [(0, .sl (m.map aLn)), (3, .int .i64 (k : Int))]) (fun k => []) (fun k => m.length - k) 0 0 ⟨by omega, rfl⟩ (by repeat (first | exact .nil | refine .cons rfl ?_)) rfl (fun _ => rfl) (fun _ => (by simp [AO.conts, AV.cells, aIt, aLn])) (fun k hI => ?_)
  obtain ⟨hk, hok⟩ := hI
  have hlp := lastL_prev m k hk
  refine AWP.seq ?_
  refine sr fun _ => ?_
  refine mv ?_
  refine mv ?_
  refine ρv U23 ?_
  refine ρ2 ?_
  refine ez ?_
  refine ρp (fun h1 => ?_) (fun h1 => ?_)
  · try simp [-List.getD_eq_getElem?_getD] at h1
    refine AWP.skip (thenA_n ?_)
    refine AWP.seq (AWP.block (AWP.seq ?_))
    refine AWP.draw mixed (by kernel_rfl) (fun _ => ?_)
    refine mv ?_
    refine mv ?_
    first | refine ARun.indexSl rfl rfl rfl rfl U23 sz108 (ep rfl) (ep rfl) (fun _ => rfl) (fun hg => getMap _ _ _ (by (try simp [-List.getD_eq_getElem?_getD] at hg); omega)) rfl rfl optN ?_ | refine ARun.indexSl rfl rfl rfl rfl U23 sz108 (ep rfl) (ep rfl) (fun hg => ofNonneg (by (try simp [-List.getD_eq_getElem?_getD] at hg); omega)) (fun hg => getMap _ _ _ (by (try simp [-List.getD_eq_getElem?_getD] at hg); omega)) rfl rfl optN ?_
    refine ρ5 U108 sz3 ?_
    refine ρa U3 ?_
    refine ρ2 ?_
    refine mv ?_
    refine ρk ?_
    refine ρk ?_
    first | refine ARun.indexSl rfl rfl rfl rfl U23 sz108 (Ev.opt rfl (fun h => h)) (Ev.opt rfl (fun h => h)) (fun _ => rfl) (fun hg => getMap _ _ _ (by (try simp [-List.getD_eq_getElem?_getD] at hg); omega)) rfl rfl optS ?_ | refine ARun.indexSl rfl rfl rfl rfl U23 sz108 (Ev.opt rfl (fun h => h)) (Ev.opt rfl (fun h => h)) (fun hg => ofNonneg (by (try simp [-List.getD_eq_getElem?_getD] at hg); omega)) (fun hg => getMap _ _ _ (by (try simp [-List.getD_eq_getElem?_getD] at hg); omega)) rfl rfl optS ?_
    refine ρB U108 sz3 ?_
    refine ρ8 U3 ?_
    refine ρ9 ?_
    refine ρ3 ?_
    refine mv ?_
    refine ρk ?_
    refine ρk ?_
    first | refine ARun.indexSl rfl rfl rfl rfl U23 sz108 (Ev.opt rfl (fun h => h)) (Ev.opt rfl (fun h => h)) (fun _ => rfl) (fun hg => getMap _ _ _ (by (try simp [-List.getD_eq_getElem?_getD] at hg); omega)) rfl rfl optS ?_ | refine ARun.indexSl rfl rfl rfl rfl U23 sz108 (Ev.opt rfl (fun h => h)) (Ev.opt rfl (fun h => h)) (fun hg => ofNonneg (by (try simp [-List.getD_eq_getElem?_getD] at hg); omega)) (fun hg => getMap _ _ _ (by (try simp [-List.getD_eq_getElem?_getD] at hg); omega)) rfl rfl optS ?_
    refine ρB U108 sz3 ?_
    refine ρ8 U3 ?_
    refine ρ9 ?_
    refine ρ3 ?_
    refine mv ?_
    refine ρk ?_
    refine ρk ?_
    first | refine ARun.indexSl rfl rfl rfl rfl U23 sz108 (Ev.opt rfl (fun h => h)) (Ev.opt rfl (fun h => h)) (fun _ => rfl) (fun hg => getMap _ _ _ (by (try simp [-List.getD_eq_getElem?_getD] at hg); omega)) rfl rfl optS ?_ | refine ARun.indexSl rfl rfl rfl rfl U23 sz108 (Ev.opt rfl (fun h => h)) (Ev.opt rfl (fun h => h)) (fun hg => ofNonneg (by (try simp [-List.getD_eq_getElem?_getD] at hg); omega)) (fun hg => getMap _ _ _ (by (try simp [-List.getD_eq_getElem?_getD] at hg); omega)) rfl rfl optS ?_
    refine ρB U108 sz3 ?_
    refine ρ8 U3 ?_
    refine ρ9 ?_
    refine ρ3 ?_
    refine mv ?_
    refine ρk ?_
    refine ρ9 ?_
    refine ARun.move (.inl rfl) rfl rfl rfl (Ev.opt rfl (fun h => h)) optS ?_
    refine ρk ?_
    refine ρk ?_
    first | refine ARun.indexSl rfl rfl rfl rfl U23 sz108 (Ev.opt rfl (fun h => h)) (Ev.opt rfl (fun h => h)) (fun _ => rfl) (fun hg => getMap _ _ _ (by (try simp [-List.getD_eq_getElem?_getD] at hg); omega)) rfl rfl optS ?_ | refine ARun.indexSl rfl rfl rfl rfl U23 sz108 (Ev.opt rfl (fun h => h)) (Ev.opt rfl (fun h => h)) (fun hg => ofNonneg (by (try simp [-List.getD_eq_getElem?_getD] at hg); omega)) (fun hg => getMap _ _ _ (by (try simp [-List.getD_eq_getElem?_getD] at hg); omega)) rfl rfl optS ?_
    refine ρB U108 sz3 ?_
    refine ρ8 U3 ?_
    refine ρk ?_
    refine ρk ?_
    first | refine ARun.arith rfl rfl rfl rfl (Ev.opt rfl (fun h => h)) (ep rfl) rfl (fun hg => i64w (by (try simp [-List.getD_eq_getElem?_getD] at hg); omega)) optS ?_ | refine ARun.arith rfl rfl rfl rfl (Ev.opt rfl (fun h => h)) (ep rfl) rfl (fun _ => rfl) optS ?_
    first | refine ARun.indexSl rfl rfl rfl rfl U23 sz108 (Ev.opt rfl (fun h => h)) (Ev.opt rfl (fun h => h)) (fun _ => rfl) (fun hg => getMap _ _ _ (by (try simp [-List.getD_eq_getElem?_getD] at hg); omega)) rfl rfl optS ?_ | refine ARun.indexSl rfl rfl rfl rfl U23 sz108 (Ev.opt rfl (fun h => h)) (Ev.opt rfl (fun h => h)) (fun hg => ofNonneg (by (try simp [-List.getD_eq_getElem?_getD] at hg); omega)) (fun hg => getMap _ _ _ (by (try simp [-List.getD_eq_getElem?_getD] at hg); omega)) rfl rfl optS ?_
    refine ρB U108 sz3 ?_
    refine ρ8 U3 ?_
    refine ρu ?_
    refine ARun.pick rfl rfl rfl rfl (Ev.opt rfl (fun h => h)) (Ev.opt rfl (by first | exact pkT | exact pkT2 | simp +contextual)) (ep rfl) (andB _ _) optS ?_
    refine ρ3 ?_
    refine ⟨by kernel_rfl, _, _, rfl, hG, ?_⟩
    refine thenA_n ?_
    refine ρp (fun h2 => ?_) (fun h2 => ?_)
    · simp [-List.getD_eq_getElem?_getD] at h2
      have hst := stepL m k (by omega)
      have hln := lastL_ge (m.take k) 0 hok
      rw [decide_eq_false (by omega), Bool.and_false] at hst
      refine sr fun _ => ?_
      refine mz ?_
      refine AWP.ret (blockA_r ?_)
      refine thenA_r (thenA_r ?_)
      refine blockA_r (thenA_r ?_)
      refine ρh ?_
      rw [okLE_bad hst]; rfl
    simp [-List.getD_eq_getElem?_getD] at h2
    have hst := stepL m k (by omega)
    rw [decide_eq_true (by omega), hok, Bool.true_and] at hst
    refine AWP.skip (blockA_n (thenA_n ?_))
    refine AWP.region (fun _ => ?_)
    refine mv ?_
    first | refine ARun.arith rfl rfl rfl rfl (ep rfl) (ep rfl) rfl (fun hg => i64w (by (try simp [-List.getD_eq_getElem?_getD] at hg); omega)) optN ?_ | refine ρl ?_
    refine ma ?_
    refine ⟨_, _, rfl, hG, ?_⟩
    refine thenA_n ⟨rfl, k + 1, _, ?_, ?_, rfl, ?_⟩
    · exact ⟨by omega, hst⟩
    · repeat (first | exact .nil | refine .cons rfl ?_)
    omega
  simp at h1
  obtain rfl : k = m.length := by omega
  refine AWP.exit ?_
  refine thenA_x ?_
  refine thenA_x ?_
  refine blockA_h ?_
  refine thenA_n ?_
  refine sr fun _ => ?_
  refine mz ?_
  refine AWP.ret ?_
  refine ρh ?_
  rw [okLE_good (by omega) hok]; rfl
set_option maxHeartbeats 1000000 in
theorem mayB_fn (l : List It) (m : List Ln) : FnP Tryz.prog 155 [.sl (l.map aIt), .sl (m.map aLn)] (.bool (ok l && okL m)) := by
  refine FnP.of Tryz.func155 rfl rfl (by simp) (by simp [AV.cells, aIt, aLn]) (fun G hG => ?_)
  have hN : NoH G.length (.bool (ok l && okL m)) := (by simp [AV.cells, aIt, aLn])
  refine sr fun _ => ?_
  refine mz ?_
  refine sr fun _ => ?_
  refine mv ?_
  refine ρm cf26 (fun hg => check_fn l) ?_
  refine ρ2 ?_
  refine mv ?_
  refine ρk ?_
  refine ρn cf137 (fun hg => checkL_fn m) ?_
  refine ρ9 ?_
  refine ρ0 ?_
  refine mz ?_
  refine AWP.ret ?_
  refine ρh ?_
  simp [okE_ok, okLE_ok]
def stp (l : List It) (x : Ln) : List It := if (holdF l x.item x.qty).2 = 0 then (holdF l x.item x.qty).1 else l
set_option maxHeartbeats 1000000 in
theorem doing_fn (l : List It) : FnNewB Tryz.prog 156 [.sl (l.map aIt), .fn (.func 111) [] []] (fun i => .fn (.func 163) [] [.pe [.fn (.func 111) [] []], .box i 0]) [.sl (l.map aIt)] := by
  refine FnNewB.of Tryz.func156 rfl rfl (by simp) (fun G hG => ?_)
  refine sr fun _ => ?_
  refine ARun.box1 (j := 0) hG rfl rfl rfl rfl rfl (ep rfl) (by first | rfl | exact aEr_one _ | exact aFl_one _) optN ?_
  refine ARun.boxPe1 rfl rfl rfl rfl (ep rfl) (by first | rfl | exact aEr_one _ | exact aFl_one _) optN ?_
  refine mz ?_
  refine sr fun _ => ?_
  refine ARun.makeFunc rfl rfl rfl rfl .nil (.cons (ep rfl) (.cons (ep rfl) .nil)) optN ?_
  refine mz ?_
  refine AWP.ret ?_
  refine endN.one (.inr rfl) rfl (.tmp rfl) ?_ (by simp [AV.cells, aIt]) (by simp [AV.cells, aIt])
  rfl
set_option maxHeartbeats 1000000 in
theorem step_fn (l : List It) (x : Ln) (hl : l.length ≤ 1000) : FnM Tryz.prog 163 (fun i => [aLn x, .pe [.fn (.func 111) [] []], .box i 0]) [.sl (l.map aIt)] (.tup [.sl ((holdF l x.item x.qty).1.map aIt), .int .i64 (holdF l x.item x.qty).2]) [.sl ((stp l x).map aIt)] := by
  refine FnM.of Tryz.func163 rfl rfl (fun i => by simp) (fun H i m hHm hi hG => ?_)
  have hN : NoH H.length (.tup [.sl ((holdF l x.item x.qty).1.map aIt), .int .i64 (holdF l x.item x.qty).2]) := (by simp [AV.cells, aIt])
  refine sr fun _ => ?_
  refine ρx ?_
  refine ma ?_
  refine mz ?_
  refine sr fun _ => ?_
  first | refine ρa U165 ?_ | refine ρd U165 ?_
  refine ARun.loadBox rfl rfl rfl rfl U22 rfl (ep rfl) (atO hi) rfl optN ?_
  refine ρ5 U108 sz3 ?_
  refine ρa U3 ?_
  refine ρ5 U108 sz3 ?_
  refine ρa U3 ?_
  refine ARun.call rfl rfl rfl rfl cf111 (ep rfl) (.cons (ep rfl) (.cons (ep rfl) (.cons (ep rfl) .nil))) rfl (fun hg => reserve_fn l x.item x.qty hl) optN ?_
  refine mv ?_
  refine ρ6 ?_
  refine ρ6 ?_
  refine ma ?_
  refine mz ?_
  refine AWP.seq ?_
  refine sr fun _ => ?_
  refine mv ?_
  refine ρ2 ?_
  refine ez ?_
  refine ρp (fun h0 => ?_) (fun h0 => ?_)
  · try simp [-List.getD_eq_getElem?_getD] at h0
    refine AWP.region (fun _ => ?_)
    refine mv ?_
    refine ARun.storeO1 hi hG rfl rfl rfl sz22 (ep rfl) (ep rfl) (by first | rfl | exact aEr_one _ | exact aFl_one _) (Nat.le_of_ble_eq_true rfl) rfl (by simp [AV.cells, aIt]) (fun hG => ?_)
    refine ez ?_
    refine sr fun _ => ?_
    refine mv ?_
    refine mv ?_
    refine ma ?_
    refine mz ?_
    refine AWP.ret ?_
    refine endF.toG (congrArg (fun c => H.set i (AO.box c)) (by rw [stp, if_pos h0]; rfl)) ?_
    refine endF.many (.inr rfl) (rs := [.tmp 4, .tmp 5]) rfl (.cons (.tmp rfl) (.cons (.tmp rfl) .nil)) (by simp) ?_ (by rw [List.length_set]; exact hN)
    rfl
  try simp [-List.getD_eq_getElem?_getD] at h0
  refine AWP.skip (thenA_n ?_)
  refine sr fun _ => ?_
  refine mv ?_
  refine mv ?_
  refine ma ?_
  refine mz ?_
  refine AWP.ret ?_
  refine endF.toG (congrArg (fun c => H.set i (AO.box c)) (by rw [stp, if_neg h0])) ?_
  refine endF.many (.inr rfl) (rs := [.tmp 4, .tmp 5]) rfl (.cons (.tmp rfl) (.cons (.tmp rfl) .nil)) (by simp) ?_ (by rw [List.length_set]; exact hN)
  rfl
set_option maxHeartbeats 1000000 in
theorem all_fn (l : List It) (m : List Ln) (hl : l.length ≤ 1000) : FnP Tryz.prog 136 [.sl (l.map aIt), .sl (m.map aLn), .fn (.func 111) [] []] (.tup [.sl ((allP holdF l m).1.map aIt), .int .i64 (allP holdF l m).2.1, .int .i64 (allP holdF l m).2.2]) := by
  refine FnP.of Tryz.func136 rfl rfl (by simp) (by simp [AV.cells, aIt, aLn]) (fun G hG => ?_)
  have hN : NoH G.length (.tup [.sl ((allP holdF l m).1.map aIt), .int .i64 (allP holdF l m).2.1, .int .i64 (allP holdF l m).2.2]) := (by simp [AV.cells, aIt, aLn])
  refine sr fun _ => ?_
  refine ma ?_
  refine ma ?_
  refine mz ?_
  refine AWP.seq ?_
  refine sr fun _ => ?_
  refine mv ?_
  refine mv ?_
  refine ρg cf155 (fun hg => mayB_fn l m) ?_
  refine ρC ?_
  refine ez ?_
  refine ρp (fun h0 => ?_) (fun h0 => ?_)
  · simp at h0
    refine sr fun _ => ?_
    refine ma ?_
    refine ma ?_
    refine mz ?_
    refine AWP.ret (thenA_r ?_)
    refine ρf (rs := [.tmp 6, .tmp 7, .tmp 8]) (.cons (.tmp rfl) (.cons (.tmp rfl) (.cons (.tmp rfl) .nil))) ?_
    rw [allP_no (by rintro ⟨a, b⟩; rw [a, b] at h0; simp at h0)]; rfl
  simp at h0
  have hml := okL_len h0.2
  have hdef := allP_yes (fn := holdF) h0
  refine AWP.skip (thenA_n ?_)
  refine sr fun _ => ?_
  refine mv ?_
  refine mv ?_
  refine ARun.callNewB (j := 0) hG rfl rfl rfl rfl rfl cf156 (ep rfl) (.cons (ep rfl) (.cons (ep rfl) .nil)) rfl (doing_fn l) optN ?_
  refine mz ?_
  refine AWP.seq ?_
  refine sr fun _ => ?_
  refine mv ?_
  refine ρv U23 ?_
  refine mv ?_
  refine ez ?_
  refine AWP.block ?_
  refine AWP.rounds (fun s => s.1 ≤ m.length ∧ s.2.length ≤ 1000 ∧ goesP holdF 0 l m = goesP holdF s.1 s.2 (m.drop s.1)) (fun s => [(1, .sl (m.map aLn)), (6, .sl ((if s.1 = 0 then [] else s.2).map aIt)), (9, .fn (.func 163) [] [.pe [.fn (.func 111) [] []], .box (G.length + 0) 0]), (21, .sl (m.map aLn)), (22, .int .i64 ((m.map aLn).length : Int)), (23, .int .i64 (s.1 : Int))]) (fun s => [.box [.sl (s.2.map aIt)]]) (fun s => m.length - s.1) 1 ((0, l) : Nat × List It) ⟨by omega, hl, rfl⟩ (by repeat (first | exact .nil | refine .cons rfl ?_)) rfl (fun _ => rfl) (fun _ => ⟨by simp [AV.cells, aIt, aLn]; intro x a _ _ e y hy; subst e; simp at hy; rcases hy with rfl | rfl | rfl | rfl <;> simp, by simp [AO.conts, AV.cells, aIt]⟩) (fun s hI => ?_)
  obtain ⟨k, cur⟩ := s
  dsimp only at hI
  show AWP _ _ _ _ _ [(1, .sl (m.map aLn)), (6, .sl ((if k = 0 then [] else cur).map aIt)), (9, .fn (.func 163) [] [.pe [.fn (.func 111) [] []], .box (G.length + 0) 0]), (21, .sl (m.map aLn)), (22, .int .i64 ((m.map aLn).length : Int)), (23, .int .i64 (k : Int))] _ [.box [.sl (cur.map aIt)]]
  obtain ⟨hk, hc, hg2⟩ := hI
  have hhl := hold_len cur (m.getD k default).item (m.getD k default).qty
  refine sr fun _ => ?_
  refine ρ2 ?_
  refine ez ?_
  refine AWP.seq ?_
  refine ρp (fun h1 => ?_) (fun h1 => ?_)
  · try simp [-List.getD_eq_getElem?_getD] at h1
    refine AWP.skip (thenA_n ?_)
    refine AWP.seq (AWP.block ?_)
    refine sr fun _ => ?_
    refine mv ?_
    first | refine ρe U23 sz108 ?_ | refine ρ7 U23 sz108 ?_
    refine ρq U108 sz108 ?_
    refine ρo (j := 1) zv108 ?_
    refine ma ?_
    refine ρ1 sz108 ?_
    refine ez ?_
    refine sr fun _ => ?_
    refine mv ?_
    refine ρi U108 sz108 ?_
    refine ARun.callSet (j := 0) hG rfl rfl rfl rfl cf163 (ep rfl) (.cons (ep rfl) .nil) rfl (step_fn cur (m.getD k default) hc _ _ ((hG.at _ _).trans rfl)) rfl optN ?_
    refine mv ?_
    refine ρ6 ?_
    refine ρ6 ?_
    refine ma ?_
    refine mz ?_
    refine AWP.seq ?_
    refine sr fun _ => ?_
    refine mv ?_
    refine ρ2 ?_
    refine ez ?_
    refine ρp (fun h2 => ?_) (fun h2 => ?_)
    · simp [-List.getD_eq_getElem?_getD] at h2
      rw [goes_step (by omega), if_pos h2] at hg2
      refine sr fun _ => ?_
      refine mv ?_
      refine mv ?_
      refine ma ?_
      refine ma ?_
      refine mz ?_
      refine AWP.ret (thenA_r ?_)
      refine blockA_r (thenA_r ?_)
      refine thenA_r (blockA_r (thenA_r ?_))
      refine ρf (rs := [.tmp 6, .tmp 7, .tmp 8]) (.cons (.tmp rfl) (.cons (.tmp rfl) (.cons (.tmp rfl) .nil))) ?_
      rw [hdef, hg2]; rfl
    simp [-List.getD_eq_getElem?_getD] at h2
    rw [goes_step (by omega), if_neg (by rw [h2]; simp)] at hg2
    have hst : stp cur (m.getD k default) = (holdF cur (m.getD k default).item (m.getD k default).qty).1 := by rw [stp, if_pos h2]
    rw [hst]
    refine AWP.skip (thenA_n ?_)
    refine AWP.region (fun _ => ?_)
    refine mv ?_
    refine ma ?_
    refine ⟨_, _, rfl, hG, ?_⟩
    refine blockA_n (thenA_n ?_)
    refine AWP.region (fun _ => ?_)
    first | refine ρb ?_ | refine ρl ?_
    refine mv ?_
    refine ⟨_, _, rfl, hG, ?_⟩
    refine thenA_n ⟨rfl, (k + 1, (holdF cur (m.getD k default).item (m.getD k default).qty).1), _, ?_, ?_, rfl, ?_⟩
    · exact ⟨by dsimp only; omega, by dsimp only; omega, hg2⟩
    · repeat (first | exact .nil | refine .cons rfl ?_)
    dsimp only; omega
  simp at h1
  obtain rfl : k = m.length := by omega
  rw [goes_end] at hg2
  have hk0 : ¬ m.length = 0 := by omega
  refine AWP.exit ?_
  refine thenA_x ?_
  refine thenA_x ?_
  refine blockA_h ?_
  refine thenA_n ?_
  refine sr fun _ => ?_
  refine mv ?_
  refine mv ?_
  refine ρv U23 ?_
  refine ma ?_
  refine ma ?_
  refine mz ?_
  refine AWP.ret ?_
  refine ρf (rs := [.tmp 6, .tmp 7, .tmp 8]) (.cons (.tmp rfl) (.cons (.tmp rfl) (.cons (.tmp rfl) .nil))) ?_
  rw [hdef, hg2, if_neg hk0, List.length_map]; rfl
set_option maxHeartbeats 1000000 in
theorem holdB_fn (l : List It) (m : List Ln) (hl : l.length ≤ 1000) : FnP Tryz.prog 107 [.sl (l.map aIt), .sl (m.map aLn)] (.tup [.sl ((allP holdF l m).1.map aIt), .int .i64 (allP holdF l m).2.1, .int .i64 (allP holdF l m).2.2]) := by
  refine FnP.of Tryz.func107 rfl rfl (by simp) (by simp [AV.cells, aIt, aLn]) (fun G hG => ?_)
  have hN : NoH G.length (.tup [.sl ((allP holdF l m).1.map aIt), .int .i64 (allP holdF l m).2.1, .int .i64 (allP holdF l m).2.2]) := (by simp [AV.cells, aIt, aLn])
  refine sr fun _ => ?_
  refine ma ?_
  refine ma ?_
  refine mz ?_
  refine sr fun _ => ?_
  refine mv ?_
  refine mv ?_
  refine ARun.call rfl rfl rfl rfl cf136 (ep rfl) (.cons (ep rfl) (.cons (ep rfl) (.cons (ep rfl) .nil))) rfl (fun hg => all_fn l m hl) optN ?_
  refine ρ6 ?_
  refine ρ6 ?_
  refine ρ6 ?_
  refine ma ?_
  refine ma ?_
  refine mz ?_
  refine AWP.ret ?_
  refine ρf (rs := [.tmp 4, .tmp 5, .tmp 6]) (.cons (.tmp rfl) (.cons (.tmp rfl) (.cons (.tmp rfl) .nil))) ?_
  rfl
set_option maxHeartbeats 1000000 in
theorem total_fn (m : List Ln) (hm : m.length ≤ 1000) : FnP Tryz.prog 108 [.sl (m.map aLn)] (.int .i64 (totalP m)) := by
  refine FnP.of Tryz.func108 rfl rfl (by simp) (by simp [AV.cells, aIt, aLn]) (fun G hG => ?_)
  have hN : NoH G.length (.int .i64 (totalP m)) := (by simp [AV.cells, aIt, aLn])
  refine sr fun _ => ?_
  refine mz ?_
  refine sr fun _ => ?_
  refine mz ?_
  refine AWP.seq ?_
  refine sr fun _ => ?_
  refine mv ?_
  refine ρv U23 ?_
  refine mv ?_
  refine ez ?_
  refine AWP.block ?_
  refine AWP.rounds (fun k => k ≤ m.length) (fun k => [(0, .sl (m.map aLn)), (3, .int .i64 (if okL m = true then sumF (m.take k) else 0)), (6, .sl (m.map aLn)), (7, .int .i64 ((m.map aLn).length : Int)), (8, .int .i64 (k : Int))]) (fun k => []) (fun k => m.length - k) 0 0 (Nat.zero_le _) (by rw [show (if okL m = true then sumF (m.take 0) else 0) = 0 from by split <;> rfl]; repeat (first | exact .nil | refine .cons rfl ?_)) rfl (fun _ => rfl) (fun _ => (by simp [AO.conts, AV.cells, aIt, aLn])) (fun k hI => ?_)
  refine sr fun _ => ?_
  refine ρ2 ?_
  refine ez ?_
  refine AWP.seq ?_
  refine ρp (fun h0 => ?_) (fun h0 => ?_)
  · try simp [-List.getD_eq_getElem?_getD] at h0
    refine AWP.skip (thenA_n ?_)
    refine AWP.seq (AWP.block ?_)
    refine sr fun _ => ?_
    first | refine ρe U23 sz108 ?_ | refine ρ7 U23 sz108 ?_
    refine ρq U108 sz108 ?_
    refine ρo (j := 0) zv108 ?_
    refine ρ1 sz108 ?_
    refine ez ?_
    refine sr fun _ => ?_
    refine mv ?_
    refine ρm cf137 (fun hg => checkL_fn m) ?_
    refine ρ2 ?_
    refine ez ?_
    refine ρp (fun h1 => ?_) (fun h1 => ?_)
    · simp [okLE_ok] at h1
      have hb := sumF_bd h1 k (by omega)
      have hq := okL_at h1 (k := k) (by omega)
      have hml := okL_len h1
      have hif : (if okL m = true then sumF (m.take k) else 0) = sumF (m.take k) := if_pos h1
      refine AWP.region (fun _ => ?_)
      refine mv ?_
      refine ρ4 (fo := 1) U108 sz3 ?_
      refine ρd U3 ?_
      first | refine ρb ?_ | refine ρl ?_
      refine ma ?_
      refine ⟨_, _, rfl, hG, ?_⟩
      refine blockA_n (thenA_n ?_)
      refine AWP.region (fun _ => ?_)
      first | refine ρb ?_ | refine ρl ?_
      refine mv ?_
      refine ⟨_, _, rfl, hG, ?_⟩
      refine thenA_n ⟨rfl, k + 1, _, ?_, ?_, rfl, ?_⟩
      · omega
      · rw [if_pos h1, if_pos h1, sumF_at m k (by omega)]
        repeat (first | exact .nil | refine .cons rfl ?_)
      omega
    simp [okLE_ok] at h1
    refine AWP.skip (blockA_n (thenA_n ?_))
    refine AWP.region (fun _ => ?_)
    first | refine ρb ?_ | refine ρl ?_
    refine mv ?_
    refine ⟨_, _, rfl, hG, ?_⟩
    refine thenA_n ⟨rfl, k + 1, _, ?_, ?_, rfl, ?_⟩
    · omega
    · rw [if_neg (by simp [h1]), if_neg (by simp [h1])]
      repeat (first | exact .nil | refine .cons rfl ?_)
    omega
  simp at h0
  obtain rfl : k = m.length := by omega
  rw [List.take_length]
  refine AWP.exit ?_
  refine thenA_x ?_
  refine thenA_x ?_
  refine blockA_h ?_
  refine thenA_n ?_
  refine sr fun _ => ?_
  refine mv ?_
  refine mz ?_
  refine AWP.ret ?_
  refine ρh ?_
  rfl
set_option maxHeartbeats 1000000 in
theorem totalR_fn (m : List Ln) (hm : m.length ≤ 1000) : FnP Tryz.prog 39 [.sl (m.map aLn)] (.int .i64 (totalP m)) := by
  refine FnP.of Tryz.func39 rfl rfl (by simp) (by simp [AV.cells, aIt, aLn]) (fun G hG => ?_)
  have hN : NoH G.length (.int .i64 (totalP m)) := (by simp [AV.cells, aIt, aLn])
  refine sr fun _ => ?_
  refine mz ?_
  refine sr fun _ => ?_
  refine mz ?_
  refine AWP.seq ?_
  refine sr fun _ => ?_
  refine mz ?_
  refine AWP.block ?_
  refine AWP.rounds (fun k => k ≤ m.length) (fun k => [(0, .sl (m.map aLn)), (3, .int .i64 (if okL m = true then sumF (m.take k) else 0)), (4, .int .i64 (k : Int))]) (fun k => []) (fun k => m.length - k) 0 0 (Nat.zero_le _) (by rw [show (if okL m = true then sumF (m.take 0) else 0) = 0 from by split <;> rfl]; repeat (first | exact .nil | refine .cons rfl ?_)) rfl (fun _ => rfl) (fun _ => (by simp [AO.conts, AV.cells, aIt, aLn])) (fun k hI => ?_)
  refine AWP.seq ?_
  refine sr fun _ => ?_
  refine mv ?_
  refine mv ?_
  refine ρv U23 ?_
  refine ρ2 ?_
  refine mv ?_
  refine ρk ?_
  refine ρn cf77 (fun hg => checkLR_fn m) ?_
  refine ρ9 ?_
  refine ρ0 ?_
  refine ez ?_
  refine ρp (fun h0 => ?_) (fun h0 => ?_)
  · simp [okLE_ok] at h0
    have hb := sumF_bd h0.2 k (by omega)
    have hq := okL_at h0.2 (k := k) (by omega)
    have hml := okL_len h0.2
    have hif : (if okL m = true then sumF (m.take k) else 0) = sumF (m.take k) := if_pos h0.2
    refine AWP.skip (thenA_n ?_)
    refine AWP.seq (AWP.block ?_)
    refine AWP.region (fun _ => ?_)
    refine mv ?_
    refine mv ?_
    refine mv ?_
    first | refine ρe U23 sz108 ?_ | refine ρ7 U23 sz108 ?_
    refine ρ5 U108 sz3 ?_
    refine ρa U3 ?_
    first | refine ρb ?_ | refine ρl ?_
    refine ma ?_
    refine ⟨_, _, rfl, hG, ?_⟩
    refine blockA_n (thenA_n ?_)
    refine AWP.region (fun _ => ?_)
    refine mv ?_
    first | refine ρb ?_ | refine ρl ?_
    refine ma ?_
    refine ⟨_, _, rfl, hG, ?_⟩
    refine thenA_n ⟨rfl, k + 1, _, ?_, ?_, rfl, ?_⟩
    · omega
    · rw [if_pos h0.2, if_pos h0.2, sumF_at m k (by omega)]
      repeat (first | exact .nil | refine .cons rfl ?_)
    omega
  simp [okLE_ok] at h0
  refine AWP.exit ?_
  refine thenA_x ?_
  refine thenA_x ?_
  refine blockA_h ?_
  refine thenA_n ?_
  refine sr fun _ => ?_
  refine mv ?_
  refine mz ?_
  refine AWP.ret ?_
  refine ρh ?_
  unfold totalP
  by_cases hm : okL m = true
  · rw [if_pos hm, if_pos hm, List.take_of_length_le (by
      by_cases e : k < m.length
      · rw [h0 e] at hm; cases hm
      · omega)]
  rw [if_neg hm, if_neg hm]
theorem goesM_1 (l : List It) (id q : Int) : goesM l id q 1 = holdF l id q := if_pos rfl
set_option maxHeartbeats 1000000 in
theorem goesLR_fn (l : List It) (m : List Ln) (hl : l.length ≤ 1000) : FnP Tryz.prog 38 [.sl (l.map aIt), .sl (m.map aLn), .int .i64 1] (.tup [.sl ((allP holdF l m).1.map aIt), .int .i64 (allP holdF l m).2.1, .int .i64 (allP holdF l m).2.2]) := by
  refine FnP.of Tryz.func38 rfl rfl (by simp) (by simp [AV.cells, aIt, aLn]) (fun G hG => ?_)
  have hN : NoH G.length (.tup [.sl ((allP holdF l m).1.map aIt), .int .i64 (allP holdF l m).2.1, .int .i64 (allP holdF l m).2.2]) := (by simp [AV.cells, aIt, aLn])
  refine sr fun _ => ?_
  refine ma ?_
  refine ma ?_
  refine mz ?_
  refine AWP.seq ?_
  refine sr fun _ => ?_
  refine mv ?_
  refine ρm cf30 (fun hg => checkR_fn l) ?_
  refine ρ2 ?_
  refine mv ?_
  refine ρk ?_
  refine ρn cf77 (fun hg => checkLR_fn m) ?_
  refine ρ9 ?_
  refine ρ3 ?_
  refine ez ?_
  refine ρp (fun h0 => ?_) (fun h0 => ?_)
  · simp [okE_ok, okLE_ok] at h0
    refine sr fun _ => ?_
    refine ma ?_
    refine ma ?_
    refine mz ?_
    refine AWP.ret (thenA_r ?_)
    refine ρf (rs := [.tmp 6, .tmp 7, .tmp 8]) (.cons (.tmp rfl) (.cons (.tmp rfl) (.cons (.tmp rfl) .nil))) ?_
    rw [allP_no (by rintro ⟨a, b⟩; rw [a, b] at h0; simp at h0)]; rfl
  simp [okE_ok, okLE_ok] at h0
  have hml := okL_len h0.2
  have hdef := allP_yes (fn := holdF) h0
  refine AWP.skip (thenA_n (AWP.seq ?_))
  refine sr fun _ => ?_
  refine mz ?_
  refine AWP.block ?_
  refine AWP.rounds (fun s => s.1 ≤ m.length ∧ s.2.length ≤ 1000 ∧ goesP holdF 0 l m = goesP holdF s.1 s.2 (m.drop s.1)) (fun s => [(0, .sl (s.2.map aIt)), (1, .sl (m.map aLn)), (2, .int .i64 1), (9, .int .i64 (s.1 : Int))]) (fun s => []) (fun s => m.length - s.1) 0 ((0, l) : Nat × List It) ⟨by omega, hl, rfl⟩ (by repeat (first | exact .nil | refine .cons rfl ?_)) rfl (fun _ => rfl) (fun _ => (by simp [AO.conts, AV.cells, aIt, aLn])) (fun s hI => ?_)
  obtain ⟨k, cur⟩ := s
  dsimp only at hI
  show AWP _ _ _ _ _ [(0, .sl (cur.map aIt)), (1, .sl (m.map aLn)), (2, .int .i64 1), (9, .int .i64 (k : Int))] _ []
  obtain ⟨hk, hc, hg2⟩ := hI
  have hhl := hold_len cur (m.getD k default).item (m.getD k default).qty
  refine AWP.seq ?_
  refine sr fun _ => ?_
  refine mv ?_
  refine mv ?_
  refine ρv U23 ?_
  refine ρ2 ?_
  refine ez ?_
  refine ρp (fun h1 => ?_) (fun h1 => ?_)
  · try simp [-List.getD_eq_getElem?_getD] at h1
    refine AWP.skip (thenA_n ?_)
    refine AWP.seq (AWP.block (AWP.seq ?_))
    refine AWP.draw mixed (by kernel_rfl) (fun _ => ?_)
    refine mv ?_
    refine mv ?_
    refine mv ?_
    first | refine ρe U23 sz108 ?_ | refine ρ7 U23 sz108 ?_
    refine ρ5 U108 sz3 ?_
    refine ρa U3 ?_
    refine mv ?_
    refine mv ?_
    first | refine ρe U23 sz108 ?_ | refine ρ7 U23 sz108 ?_
    refine ρ5 U108 sz3 ?_
    refine ρa U3 ?_
    refine mv ?_
    refine ARun.call rfl rfl rfl rfl cf35 (ep rfl) (.cons (ep rfl) (.cons (ep rfl) (.cons (ep rfl) (.cons (ep rfl) .nil)))) rfl (fun hg => goesR_fn cur (m.getD k default).item (m.getD k default).qty 1 hc) optN ?_
    refine mv ?_
    refine ρ6 ?_
    refine ρ6 ?_
    refine ma ?_
    refine ma ?_
    refine ⟨by kernel_rfl, _, _, rfl, hG, ?_⟩
    refine thenA_n (AWP.seq ?_)
    refine sr fun _ => ?_
    refine mv ?_
    refine ρ2 ?_
    refine ez ?_
    refine ρp (fun h2 => ?_) (fun h2 => ?_)
    · simp only [goesM_1] at h2
      simp [-List.getD_eq_getElem?_getD] at h2
      rw [goes_step (by omega), if_pos h2] at hg2
      refine sr fun _ => ?_
      refine mv ?_
      refine mv ?_
      refine ma ?_
      refine ma ?_
      refine mz ?_
      refine AWP.ret (thenA_r ?_)
      refine blockA_r (thenA_r ?_)
      refine thenA_r (blockA_r (thenA_r ?_))
      refine ρf (rs := [.tmp 6, .tmp 7, .tmp 8]) (.cons (.tmp rfl) (.cons (.tmp rfl) (.cons (.tmp rfl) .nil))) ?_
      rw [hdef, hg2]; rfl
    simp only [goesM_1] at h2
    simp [-List.getD_eq_getElem?_getD] at h2
    rw [goes_step (by omega), if_neg (by rw [h2]; simp)] at hg2
    refine AWP.skip (thenA_n ?_)
    refine AWP.region (fun _ => ?_)
    refine mv ?_
    refine ma ?_
    refine ⟨_, _, rfl, hG, ?_⟩
    refine blockA_n (thenA_n ?_)
    refine AWP.region (fun _ => ?_)
    refine mv ?_
    first | refine ρb ?_ | refine ρl ?_
    refine ma ?_
    refine ⟨_, _, rfl, hG, ?_⟩
    refine thenA_n ⟨rfl, (k + 1, (holdF cur (m.getD k default).item (m.getD k default).qty).1), _, ?_, ?_, rfl, ?_⟩
    · exact ⟨by dsimp only; omega, by dsimp only; omega, hg2⟩
    · rw [← goesM_1]
      repeat (first | exact .nil | refine .cons rfl ?_)
    dsimp only; omega
  simp at h1
  obtain rfl : k = m.length := by omega
  rw [goes_end] at hg2
  refine AWP.exit ?_
  refine thenA_x ?_
  refine thenA_x ?_
  refine blockA_h ?_
  refine thenA_n ?_
  refine sr fun _ => ?_
  refine mv ?_
  refine mv ?_
  refine ρv U23 ?_
  refine ma ?_
  refine ma ?_
  refine mz ?_
  refine AWP.ret ?_
  refine ρf (rs := [.tmp 6, .tmp 7, .tmp 8]) (.cons (.tmp rfl) (.cons (.tmp rfl) (.cons (.tmp rfl) .nil))) ?_
  rw [hdef, hg2, List.length_map]; rfl
set_option maxHeartbeats 1000000 in
theorem eq_fn (a b : List It) (hl : a.length ≤ 9223372036854775807) : FnP Tryz.prog 46 [.sl (a.map aIt), .sl (b.map aIt)] (.bool (decide (a = b))) := by
  refine FnP.of Tryz.func46 rfl rfl (by simp) (by simp [AV.cells, aIt, aLn]) (fun G hG => ?_)
  have hN : NoH G.length (.bool (decide (a = b))) := (by simp [AV.cells, aIt, aLn])
  refine sr fun _ => ?_
  refine mz ?_
  refine AWP.seq ?_
  refine sr fun _ => ?_
  refine mv ?_
  refine ρv U22 ?_
  refine mv ?_
  refine ρv U22 ?_
  refine ρ2 ?_
  refine ez ?_
  refine ρp (fun h0 => ?_) (fun h0 => ?_)
  · simp [-List.getD_eq_getElem?_getD] at h0
    refine sr fun _ => ?_
    refine mz ?_
    refine AWP.ret (thenA_r ?_)
    refine ρh ?_
    rw [decide_eq_false (fun e => absurd (congrArg List.length e) (by omega))]; rfl
  simp [-List.getD_eq_getElem?_getD] at h0
  refine AWP.skip (thenA_n (AWP.seq ?_))
  refine sr fun _ => ?_
  refine mv ?_
  refine ρv U22 ?_
  refine mv ?_
  refine ez ?_
  refine AWP.block ?_
  refine AWP.rounds (fun k => k ≤ a.length ∧ a.take k = b.take k) (fun k => [(0, .sl (a.map aIt)), (1, .sl (b.map aIt)), (12, .int .i64 ((a.map aIt).length : Int)), (13, .int .i64 (k : Int))]) (fun k => []) (fun k => a.length - k) 0 0 ⟨by omega, rfl⟩ (by repeat (first | exact .nil | refine .cons rfl ?_)) rfl (fun _ => rfl) (fun _ => (by simp [AO.conts, AV.cells, aIt, aLn])) (fun k hI => ?_)
  obtain ⟨hk, hs⟩ := hI
  refine sr fun _ => ?_
  refine ρ2 ?_
  refine ez ?_
  refine AWP.seq ?_
  refine ρp (fun h1 => ?_) (fun h1 => ?_)
  · simp [-List.getD_eq_getElem?_getD] at h1
    refine AWP.skip (thenA_n ?_)
    refine AWP.seq (AWP.block ?_)
    refine sr fun _ => ?_
    refine mv ?_
    refine mz ?_
    refine AWP.seq ?_
    refine AWP.draw mixed (by kernel_rfl) (fun _ => ?_)
    refine mv ?_
    refine mv ?_
    first | refine ρe U22 sz64 ?_ | refine ρ7 U22 sz64 ?_
    refine ρq U64 sz64 ?_
    refine mv ?_
    refine mv ?_
    first | refine ρe U22 sz64 ?_ | refine ρ7 U22 sz64 ?_
    refine ρq U64 sz64 ?_
    refine ARun.eqAgg rfl rfl rfl rfl eq64 (ep rfl) (ep rfl) rfl (.inr ⟨rfl, rfl⟩) optN ?_
    refine ⟨by kernel_rfl, _, _, rfl, hG, ?_⟩
    refine thenA_n ?_
    refine ρp (fun h2 => ?_) (fun h2 => ?_)
    · simp [-List.getD_eq_getElem?_getD] at h2
      refine sr fun _ => ?_
      refine mz ?_
      refine AWP.ret (blockA_r ?_)
      refine thenA_r (thenA_r ?_)
      refine blockA_r (thenA_r ?_)
      refine ρh ?_
      rw [decide_eq_false (ne_of_get (k := k) (aIt_ne h2))]; rfl
    simp [-List.getD_eq_getElem?_getD] at h2
    refine AWP.skip (blockA_n (thenA_n ?_))
    refine AWP.region (fun _ => ?_)
    first | refine ρb ?_ | refine ρl ?_
    refine mv ?_
    refine ⟨_, _, rfl, hG, ?_⟩
    refine thenA_n ⟨rfl, k + 1, _, ?_, ?_, rfl, ?_⟩
    · exact ⟨by omega, take_eq_go hs h1 (by omega) (aIt_ext h2)⟩
    · repeat (first | exact .nil | refine .cons rfl ?_)
    omega
  simp [-List.getD_eq_getElem?_getD] at h1
  refine AWP.exit ?_
  refine thenA_x ?_
  refine thenA_x ?_
  refine blockA_h ?_
  refine thenA_n ?_
  refine sr fun _ => ?_
  refine mz ?_
  refine AWP.ret ?_
  refine ρh ?_
  rw [decide_eq_true (by rw [List.take_of_length_le h1, List.take_of_length_le (by omega)] at hs; exact hs)]; rfl
end Go.Proofs.YtgebpndhnkkbgaaGreatDoor.Stk
namespace Go.Proofs.YtgebpndhnkkbgaaGreatDoor
set_option linter.unusedVariables false
set_option linter.unusedSimpArgs false
open NumP
set_option linter.unusedVariables false
set_option linter.unusedSimpArgs false
/-! ### the errors -/
theorem new_code (p : ByteArray) (e : Int) : (Er.new p e).code = e := by
  unfold Er.new
  split
  · rename_i h; rw [h]; rfl
  · rename_i h
    show (match (some e : Option Int) with | some c => if c = 0 then 2 else c | Option.none => 2) = e
    simp [h]
theorem errOf_code (op p : ByteArray) (e : Int) : (errOf op p e).code = e := by
  unfold errOf
  split
  · rename_i h; rw [h]; rfl
  · rename_i h
    show (match (some e : Option Int) with | some c => if c = 0 then 2 else c | Option.none => 2) = e
    simp [h]
theorem wrap_code (p : ByteArray) {e : Er} : (Er.wrap p e).code = e.code := by
  cases e <;> rfl
theorem takeErr_code (s : ByteArray) : (takeErr s).code = takeE s := by
  unfold takeErr takeE
  split
  · rw [wrap_code, errOf_code]
  · split
    · rw [new_code]
    · rw [wrap_code, new_code]
/-! ### replies -/
theorem repE_zero {r : Rp} (h : repE r = 0) : (0 ≤ r.code ∧ r.code ≤ 255) ∧ r.nums.length ≤ 20 ∧ nneg r.nums = true := by
  unfold repE at h
  split at h
  · cases h
  · rename_i h0
    exact ⟨by omega, by omega, by cases hh : nneg r.nums <;> simp_all⟩
theorem takeC_len (s : ByteArray) : (takeC s).lines.length ≤ 1000 := by
  unfold takeC
  split
  · have h1 := rdRow_len (sixR s 6) 10
    have : ∀ l : List Int, (pairsL l).length ≤ l.length := by
      intro l
      induction l using pairsL.induct with
      | case1 a b r ih => simp [pairsL]; omega
      | case2 t h => rw [show pairsL t = [] from by unfold pairsL; split <;> simp_all]; exact Nat.zero_le _
    exact Nat.le_trans (this _) h1
  · exact Nat.zero_le _
theorem putR_len (r : Rp) : (putR r).size ≤ 1000 := by
  unfold putR
  split
  · rename_i h
    rw [layR_ok h]
    have h1 := rowN_len r.nums
    have h2 := (repE_zero h).2.1
    have a1 := putN_len r.code
    show (bs _).size ≤ _
    rw [bs_size]; simp; omega
  · exact Nat.zero_le _
end Go.Proofs.YtgebpndhnkkbgaaGreatDoor
namespace Go.Proofs.YtgebpndhnkkbgaaGreatDoor
set_option linter.unusedVariables false
set_option linter.unusedSimpArgs false
open NumP
set_option linter.unusedVariables false
set_option linter.unusedSimpArgs false
abbrev Its := List StockP.It
abbrev Ses := List SessP.Se
abbrev St := Its × Ses
abbrev tF (l : Its) (id : Int) : StockP.It := (StockP.findT l id).1
def numsP (l : Its) (id : Int) : List Int := [(tF l id).free, (tF l id).held, (tF l id).gone]
def oneP (l : Its) (c : Cl) : Its × Int :=
  if c.kind = 1 then Stk.createP l c.item c.qty else if c.kind = 2 then StockP.withP (StockP.inG c.qty) l c.item c.qty else
  if c.kind = 3 then StockP.withP (StockP.holdG c.qty) l c.item c.qty else if c.kind = 4 then StockP.withP (StockP.freeG c.qty) l c.item c.qty else StockP.withP (StockP.shipG c.qty) l c.item c.qty
def oneR (l : Its) (c : Cl) : Its × Rp := if (oneP l c).2 = 0 then ((oneP l c).1, ⟨0, numsP (oneP l c).1 c.item⟩) else (l, ⟨(oneP l c).2, []⟩)
abbrev mvP (l : Its) (c : Cl) : Its × Int := Stk.moveP l c.item c.to_ c.qty
def moveR (l : Its) (c : Cl) : Its × Rp := if (mvP l c).2 = 0 then ((mvP l c).1, ⟨0, [(tF (mvP l c).1 c.item).free, (tF (mvP l c).1 c.to_).free]⟩) else (l, ⟨(mvP l c).2, []⟩)
def queryR (l : Its) (c : Cl) : Its × Rp := if (StockP.findT l c.item).2 = true then (l, ⟨0, numsP l c.item⟩) else (l, ⟨40, []⟩)
abbrev orP (l : Its) (c : Cl) : Its × Int × Int := StockP.allP Stk.holdF l c.lines
def orderR (l : Its) (c : Cl) : Its × Rp := if (orP l c).2.2 = 0 then ((orP l c).1, ⟨0, [StockP.totalP c.lines]⟩) else (l, ⟨(orP l c).2.2, [(orP l c).2.1]⟩)
def kindR (l : Its) (c : Cl) : Its × Rp := if c.kind = 6 then moveR l c else if c.kind = 7 then queryR l c else if c.kind = 8 then orderR l c else oneR l c
def doP (l : Its) (c : Cl) : Its × Rp := if Stk.okE l = 0 then (if checkP c = 0 then kindR l c else (l, ⟨checkP c, []⟩)) else (l, ⟨2, []⟩)
def chkP (s : St) : Int := if Stk.okE s.1 = 0 ∧ SessP.okE s.2 = 0 then 0 else 2
abbrev asP (s : St) (p : ByteArray) : ByteArray × Bool × Int := Ssn.askP s.2 (takeC p).client (takeC p).seq
abbrev nwP (s : St) (p : ByteArray) : SessP.Se := ⟨(takeC p).client, (takeC p).seq, putR (doP s.1 (takeC p)).2⟩
abbrev ntP (s : St) (p : ByteArray) : Ses × Int := Ssn.noteP s.2 (nwP s p)
def applyP (s : St) (p : ByteArray) : St × ByteArray :=
  if chkP s = 0 then
    if takeE p = 0 then
      if (asP s p).2.2 = 0 then
        if (asP s p).2.1 = true then (s, (asP s p).1) else (((doP s.1 (takeC p)).1, (ntP s p).1), putR (doP s.1 (takeC p)).2)
      else (s, putR ⟨(asP s p).2.2, []⟩)
    else (s, putR ⟨takeE p, []⟩)
  else (s, putR ⟨2, []⟩)
def stepP (a : St × List ByteArray) (p : ByteArray) : St × List ByteArray := ((applyP a.1 p).1, a.2 ++ [(applyP a.1 p).2])
def foldP (s : St) (l : List ByteArray) : St × List ByteArray := l.foldl stepP (s, [])
/-! ### what it keeps -/
theorem ok_len {l : Its} (h : StockP.ok l = true) : l.length ≤ 20 := StockP.ok_len h
theorem find_bd {l : Its} (h : StockP.ok l = true) (id : Int) : (0 ≤ (tF l id).free ∧ (tF l id).free ≤ 1000000) ∧ (0 ≤ (tF l id).held ∧ (tF l id).held ≤ 1000000) ∧ (0 ≤ (tF l id).gone ∧ (tF l id).gone ≤ 1000000) := by
  unfold tF
  cases hf : (StockP.findT l id).2 with
  | false => rw [Stk.find_no2 hf]; exact ⟨by decide, by decide, by decide⟩
  | true =>
    have := StockP.may_bd (Stk.found_may (q := 1) (by unfold StockP.askedB; rw [h]; decide) hf)
    omega
theorem nums_fit {l : Its} (h : StockP.ok l = true) (id : Int) : ∀ x, x ∈ numsP l id → 0 ≤ x ∧ x ≤ 5000000 := by
  intro x hx
  have := find_bd h id
  simp only [numsP, List.mem_cons, List.not_mem_nil, or_false] at hx
  rcases hx with rfl | rfl | rfl <;> omega
theorem one_ok {l : Its} {c : Cl} (h : (oneP l c).2 = 0) : StockP.ok (oneP l c).1 = true := by
  unfold oneP at h ⊢
  by_cases h1 : c.kind = 1
  · rw [if_pos h1] at h ⊢; exact (Stk.create_sums h).2.ok
  rw [if_neg h1] at h ⊢
  by_cases h2 : c.kind = 2
  · rw [if_pos h2] at h ⊢; exact (Stk.with_sums 0 c.qty h (Stk.in_g c.qty)).2.ok
  rw [if_neg h2] at h ⊢
  by_cases h3 : c.kind = 3
  · rw [if_pos h3] at h ⊢; exact (Stk.with_sums 0 0 h (Stk.hold_g c.qty)).2.ok
  rw [if_neg h3] at h ⊢
  by_cases h4 : c.kind = 4
  · rw [if_pos h4] at h ⊢; exact (Stk.with_sums 0 0 h (Stk.free_g c.qty)).2.ok
  rw [if_neg h4] at h ⊢
  exact (Stk.with_sums 0 0 h (Stk.ship_g c.qty)).2.ok
theorem goes_ok (m : List Ln) : ∀ (i : Int) (l : Its), StockP.ok l = true → (StockP.goesP Stk.holdF i l m).2.2 = 0 → StockP.ok (StockP.goesP Stk.holdF i l m).1 = true := by
  induction m with
  | nil => intro i l h _; exact h
  | cons x m ih =>
    intro i l h h0
    rw [StockP.goesP_cons] at h0 ⊢
    by_cases e : (Stk.holdF l x.item x.qty).2 ≠ 0
    · rw [if_pos e] at h0; exact absurd h0 e
    · rw [if_neg e] at h0 ⊢
      exact ih _ _ (Stk.with_sums 0 0 (by simpa using e) (Stk.hold_g x.qty)).2.ok h0
theorem order_ok {l : Its} {c : Cl} (h : (orP l c).2.2 = 0) : StockP.ok (orP l c).1 = true := by
  unfold orP StockP.allP at h ⊢
  by_cases e : StockP.ok l = true ∧ StockP.okL c.lines = true
  · rw [if_pos e] at h ⊢; exact goes_ok _ _ _ e.1 h
  · rw [if_neg e] at h; simp at h
theorem kind_ok {l : Its} {c : Cl} (h : StockP.ok l = true) : StockP.ok (kindR l c).1 = true := by
  unfold kindR
  split
  · unfold moveR; split
    · rename_i h1; exact (Stk.move_sums h1).2.ok
    · exact h
  · split
    · unfold queryR; split <;> exact h
    · split
      · unfold orderR; split
        · rename_i h1; exact order_ok h1
        · exact h
      · unfold oneR; split
        · rename_i h1; exact one_ok h1
        · exact h
theorem do_ok {l : Its} {c : Cl} (h : StockP.ok l = true) : StockP.ok (doP l c).1 = true := by
  unfold doP; split
  · split
    · exact kind_ok h
    · exact h
  · exact h
/-! ### its answers -/
theorem with_rng {g : StockP.It → StockP.It × Int} {l : Its} {id q : Int} (hg : ∀ x, 0 ≤ (g x).2 ∧ (g x).2 ≤ 255) : 0 ≤ (StockP.withP g l id q).2 ∧ (StockP.withP g l id q).2 ≤ 255 := by
  unfold StockP.withP
  split
  · split
    · split
      · exact (by constructor <;> first | decide | (dsimp only; decide))
      · exact hg _
    · exact (by constructor <;> first | decide | (dsimp only; decide))
  · exact (by constructor <;> first | decide | (dsimp only; decide))
theorem lent_rng (b c : Int) : 0 ≤ StockP.lentE b c ∧ StockP.lentE b c ≤ 255 := by unfold StockP.lentE; split <;> omega
theorem in_rng (q : Int) (x : StockP.It) : 0 ≤ (StockP.inG q x).2 ∧ (StockP.inG q x).2 ≤ 255 := by unfold StockP.inG; split <;> exact (by constructor <;> first | decide | (dsimp only; decide))
theorem create_rng (l : Its) (i q : Int) : 0 ≤ (Stk.createP l i q).2 ∧ (Stk.createP l i q).2 ≤ 255 := by
  unfold Stk.createP; split
  · split
    · exact (by constructor <;> first | decide | (dsimp only; decide))
    · split <;> exact (by constructor <;> first | decide | (dsimp only; decide))
  · exact (by constructor <;> first | decide | (dsimp only; decide))
theorem move_rng (l : Its) (a b q : Int) : 0 ≤ (Stk.moveP l a b q).2 ∧ (Stk.moveP l a b q).2 ≤ 255 := by
  unfold Stk.moveP; split
  · split
    · exact (by constructor <;> first | decide | (dsimp only; decide))
    · split
      · exact with_rng (in_rng q)
      · exact with_rng (fun x => lent_rng _ _)
  · exact (by constructor <;> first | decide | (dsimp only; decide))
theorem one_rng (l : Its) (c : Cl) : 0 ≤ (oneP l c).2 ∧ (oneP l c).2 ≤ 255 := by
  unfold oneP
  split
  · exact create_rng _ _ _
  · split
    · exact with_rng (in_rng _)
    · split
      · exact with_rng (fun x => lent_rng _ _)
      · split
        · exact with_rng (fun x => lent_rng _ _)
        · exact with_rng (fun x => lent_rng _ _)
theorem goes_rng (m : List Ln) : ∀ (i : Int) (l : Its), 0 ≤ i → (0 ≤ (StockP.goesP Stk.holdF i l m).2.2 ∧ (StockP.goesP Stk.holdF i l m).2.2 ≤ 255) ∧ (0 ≤ (StockP.goesP Stk.holdF i l m).2.1 ∧ (StockP.goesP Stk.holdF i l m).2.1 ≤ i + m.length) := by
  induction m with
  | nil => intro i l h; exact ⟨⟨(show (0 : Int) ≤ 0 by decide), (show (0 : Int) ≤ 255 by decide)⟩, by show 0 ≤ i; omega, by show i ≤ _; simp⟩
  | cons x m ih =>
    intro i l h
    rw [StockP.goesP_cons]
    split
    · exact ⟨with_rng (fun x => lent_rng _ _), h, by simp only [List.length_cons]; omega⟩
    · have := ih (i + 1) (Stk.holdF l x.item x.qty).1 (by omega)
      rw [List.length_cons]; omega
theorem order_rng (l : Its) (c : Cl) : (0 ≤ (orP l c).2.2 ∧ (orP l c).2.2 ≤ 255) ∧ (0 ≤ (orP l c).2.1 ∧ (orP l c).2.1 ≤ 5) := by
  unfold orP StockP.allP
  split
  · rename_i h
    have := goes_rng c.lines 0 l (by omega)
    have h2 := Stk.okL_len h.2
    omega
  · exact ⟨(by constructor <;> first | decide | (dsimp only; decide)), (by constructor <;> first | decide | (dsimp only; decide))⟩
theorem total_bd (m : List Ln) : 0 ≤ StockP.totalP m ∧ StockP.totalP m ≤ 5000000 := by
  unfold StockP.totalP
  split
  · rename_i h
    have h1 := Stk.sumF_bd h m.length (Nat.le_refl _)
    rw [List.take_length] at h1
    have h2 := Stk.okL_len h
    omega
  · exact (by constructor <;> first | decide | (dsimp only; decide))
structure Fine (r : Rp) : Prop where
  code : 0 ≤ r.code ∧ r.code ≤ 255
  len : r.nums.length ≤ 3
  fit : ∀ x, x ∈ r.nums → 0 ≤ x ∧ x ≤ 5000000
theorem Fine.bare {e : Int} (h : 0 ≤ e ∧ e ≤ 255) : Fine ⟨e, []⟩ := ⟨h, Nat.zero_le _, fun x hx => by cases hx⟩
theorem Fine.one {e n : Int} (h : 0 ≤ e ∧ e ≤ 255) (hn : 0 ≤ n ∧ n ≤ 5000000) : Fine ⟨e, [n]⟩ := ⟨h, Nat.le_add_left 1 2, fun x hx => by simp at hx; subst hx; exact hn⟩
theorem Fine.rep {r : Rp} (h : Fine r) : repE r = 0 := by
  unfold repE
  rw [if_neg]
  have h1 := h.code
  have h2 := h.len
  have h3 : nneg r.nums = true := nneg_of fun x hx => (h.fit x hx).1
  rw [h3]; simp; omega
theorem Fine.num {r : Rp} (h : Fine r) : ∀ x, x ∈ r.nums → -9223372036854775808 ≤ x ∧ x ≤ 9223372036854775807 := fun x hx => by have := h.fit x hx; omega
theorem Fine.small {r : Rp} (h : Fine r) : (putR r).size ≤ 100 := by
  have he := h.rep
  have hl := h.len
  have hn : nneg r.nums = true := nneg_of fun x hx => (h.fit x hx).1
  unfold putR
  rw [if_pos he, layR_ok he]
  unfold WrS.out
  rw [if_pos rfl]
  show ((putN r.code).1 ++ (rowN r.nums).1).length ≤ 100
  rw [List.length_append]
  have h1 := putN_len r.code
  unfold rowN
  rw [if_pos hn]
  have h2 := putN_len (r.nums.length : Int)
  have h3 := rowBytes_len r.nums
  rw [List.length_append]; omega
theorem kind_fine {l : Its} {c : Cl} (h : StockP.ok l = true) : Fine (kindR l c).2 := by
  unfold kindR
  split
  · unfold moveR; split
    · rename_i h1
      have hk := (Stk.move_sums h1).2.ok
      refine ⟨(by constructor <;> first | decide | (dsimp only; decide)), Nat.le_succ _, fun x hx => ?_⟩
      have b1 := find_bd hk c.item
      have b2 := find_bd hk c.to_
      simp only [List.mem_cons, List.not_mem_nil, or_false] at hx
      rcases hx with rfl | rfl
      · exact ⟨b1.1.1, Int.le_trans b1.1.2 (by decide)⟩
      · exact ⟨b2.1.1, Int.le_trans b2.1.2 (by decide)⟩
    · exact .bare (move_rng _ _ _ _)
  · split
    · unfold queryR; split
      · exact ⟨(by constructor <;> first | decide | (dsimp only; decide)), Nat.le_refl _, nums_fit h _⟩
      · exact .bare (by constructor <;> first | decide | (dsimp only; decide))
    · split
      · unfold orderR; split
        · exact .one (by constructor <;> first | decide | (dsimp only; decide)) (total_bd _)
        · have := order_rng l c
          exact .one this.1 (by omega)
      · unfold oneR; split
        · rename_i h1
          exact ⟨(by constructor <;> first | decide | (dsimp only; decide)), Nat.le_refl _, nums_fit (one_ok h1) _⟩
        · exact .bare (one_rng _ _)
theorem check_rng (c : Cl) : 0 ≤ checkP c ∧ checkP c ≤ 255 := by rcases check_two c with h | h | h <;> rw [h] <;> exact (by constructor <;> first | decide | (dsimp only; decide))
theorem do_fine (l : Its) (c : Cl) : Fine (doP l c).2 := by
  unfold doP; split
  · rename_i h
    split
    · exact kind_fine (Stk.okE_ok.1 h)
    · exact .bare (check_rng c)
  · exact .bare (by constructor <;> first | decide | (dsimp only; decide))
theorem do_len (l : Its) (c : Cl) (hl : l.length ≤ 60) : (doP l c).1.length ≤ 60 := by
  by_cases h : Stk.okE l = 0
  · have := ok_len (do_ok (c := c) (Stk.okE_ok.1 h)); omega
  · unfold doP; rw [if_neg h]; exact hl
theorem note_zero {s : St} {p : ByteArray} (ht : takeE p = 0) (hp : p.size ≤ 1000000) (h : (asP s p).2.2 = 0) (h2 : (asP s p).2.1 = false) : (ntP s p).2 = 0 := by
  unfold ntP Ssn.noteP
  have hm : SessP.may (nwP s p) = true := by
    have ha := (Ssn.askP_ok h).2
    have hsz := (do_fine s.1 (takeC p)).small
    rw [Ssn.may_iff]
    have n1 := Ssn.numB_iff (takeC p).client
    have n2 := Ssn.numB_iff (takeC p).seq
    refine ⟨?_, ?_, ?_⟩
    · exact n1.1 ha.1
    · exact n2.1 ha.2
    · show ((putR (doP s.1 (takeC p)).2).size : Int) ≤ 300; omega
  rw [if_pos h, if_pos hm, if_neg (by rw [show (Ssn.askP s.2 (nwP s p).client (nwP s p).seq).2.1 = (asP s p).2.1 from rfl, h2]; simp)]
theorem ses_len {l : Ses} (h : SessP.okE l = 0) : l.length ≤ 20 := (Ssn.okE_ok h).1
theorem apply_len (s : St) (p : ByteArray) (hp : p.size ≤ 1000000) (h1 : s.1.length ≤ 60) (h2 : s.2.length ≤ 60) : (applyP s p).1.1.length ≤ 60 ∧ (applyP s p).1.2.length ≤ 60 := by
  unfold applyP
  split
  · split
    · rename_i ht
      split
      · rename_i ha
        split
        · exact ⟨h1, h2⟩
        · rename_i hg
          have := ses_len (Ssn.note_ok (note_zero ht hp ha (by simpa using hg)))
          exact ⟨do_len _ _ h1, Nat.le_trans this (by decide)⟩
      · exact ⟨h1, h2⟩
    · exact ⟨h1, h2⟩
  · exact ⟨h1, h2⟩
theorem fold_snoc (s : St) (l : List ByteArray) (x : ByteArray) : foldP s (l ++ [x]) = stepP (foldP s l) x := by unfold foldP; rw [List.foldl_append]; rfl
theorem fold_at (s : St) (l : List ByteArray) (k : Nat) (h : k < l.length) : foldP s (l.take (k + 1)) = stepP (foldP s (l.take k)) (l.getD k default) := by
  rw [List.take_succ_eq_append_getElem h, fold_snoc]; simp [List.getD, h]
theorem fold_len (s : St) (l : List ByteArray) (hl : ∀ x, x ∈ l → x.size ≤ 1000000) (h1 : s.1.length ≤ 60) (h2 : s.2.length ≤ 60) : ∀ k, k ≤ l.length → ((foldP s (l.take k)).1.1.length ≤ 60 ∧ (foldP s (l.take k)).1.2.length ≤ 60) ∧ (foldP s (l.take k)).2.length = k := by
  intro k
  induction k with
  | zero => intro _; exact ⟨⟨h1, h2⟩, rfl⟩
  | succ k ih =>
    intro hk
    obtain ⟨⟨i1, i2⟩, i3⟩ := ih (by omega)
    rw [fold_at s l k (by omega)]
    have hx : (l.getD k default).size ≤ 1000000 := by rw [show l.getD k default = l[k] from by simp [List.getD, show k < l.length by omega]]; exact hl _ (List.getElem_mem _)
    refine ⟨apply_len _ _ hx i1 i2, ?_⟩
    show ((foldP s (l.take k)).2 ++ [_]).length = k + 1
    rw [List.length_append, i3]; rfl
end Go.Proofs.YtgebpndhnkkbgaaGreatDoor
namespace Go.Proofs.YtgebpndhnkkbgaaGreatDoor
set_option linter.unusedVariables false
set_option linter.unusedSimpArgs false
open Go.RowKit
open NumP
set_option maxRecDepth 100000
set_option maxHeartbeats 1000000 in
theorem moved_R (r : RdS) (p : ByteArray) (to e : Int) : FnP Tryz.prog 125 [aIn r, .str p, .int .i64 to, .int .i64 e] (aIn (r.moved p to e)) := by
  refine FnP.of Tryz.func125 rfl rfl (by simp) (by simp [AV.cells, aIn, aOut]) (fun G hG => ?_)
  have hN : NoH G.length (aIn (r.moved p to e)) := (by simp [AV.cells, aIn, aOut])
  refine sr fun _ => ?_
  refine ARun.box (j := 0) hG rfl rfl rfl rfl rfl (ep rfl) rfl rfl optN ?_
  refine ρo (j := 1) zv131 ?_
  refine ez ?_
  refine AWP.seq ?_
  refine sr fun _ => ?_
  refine mv ?_
  refine ρ2 ?_
  refine ez ?_
  refine ρp (fun h0 => ?_) (fun h0 => ?_)
  · simp at h0
    refine sr fun _ => ?_
    refine mv ?_
    refine ρ4 (fo := 2) U131 sz9 ?_
    refine ρs sz9 ?_
    refine ez ?_
    refine sr fun _ => ?_
    refine mv ?_
    refine ρ4 (fo := 3) U131 sz3 ?_
    refine ρs sz3 ?_
    refine ez ?_
    refine sr fun _ => ?_
    refine ρi U131 sz131 ?_
    refine ρ1 sz131 ?_
    refine ez ?_
    refine AWP.ret (thenA_r ?_)
    refine endF.one (.inr rfl) rfl (.cellA rfl ((hG.at _ _).trans rfl) U131 rfl sz131 rfl rfl) ?_ hN
    rw [moved_pos h0]; rfl
  simp at h0
  refine AWP.skip (thenA_n ?_)
  refine sr fun _ => ?_
  refine mv ?_
  refine ρ4 (fo := 1) U131 sz3 ?_
  refine ρs sz3 ?_
  refine ez ?_
  refine sr fun _ => ?_
  refine ρi U131 sz131 ?_
  refine ρ1 sz131 ?_
  refine ez ?_
  refine AWP.ret ?_
  refine endF.one (.inr rfl) rfl (.cellA rfl ((hG.at _ _).trans rfl) U131 rfl sz131 rfl rfl) ?_ hN
  rw [moved_neg h0]; rfl
set_option maxHeartbeats 1000000 in
theorem num_R (r : RdS) (most : Int) (h : r.ok) : FnP Tryz.prog 89 [aIn r, .int .i64 most] (.tup [aIn (rdNum r most).1, .int .i64 (rdNum r most).2]) := by
  refine FnP.of Tryz.func89 rfl rfl (by simp) (by simp [AV.cells, aIn, aOut]) (fun G hG => ?_)
  have hN : NoH G.length (.tup [aIn (rdNum r most).1, .int .i64 (rdNum r most).2]) := (by simp [AV.cells, aIn, aOut])
  refine sr fun _ => ?_
  refine ρx ?_
  refine ρo (j := 0) zv131 ?_
  refine mz ?_
  refine AWP.seq ?_
  refine sr fun _ => ?_
  refine ρ5 U131 sz3 ?_
  refine ρa U3 ?_
  refine ρ2 ?_
  refine ez ?_
  refine ρp (fun h0 => ?_) (fun h0 => ?_)
  · have he : r.e ≠ 0 := by simpa using h0
    refine sr fun _ => ?_
    refine ρq U131 sz131 ?_
    refine ρ1 sz131 ?_
    refine mz ?_
    refine AWP.ret (thenA_r ?_)
    refine ρf (rs := [.cell 4 131, .tmp 5]) (.cons (.cellA rfl ((hG.at _ _).trans rfl) U131 rfl sz131 rfl rfl) (.cons (.tmp rfl) .nil)) ?_
    rw [rdNum, if_pos he]; rfl
  have he : r.e = 0 := by simpa using h0
  have hde : rdNum r most = (r.moved tNum (getN (bl r.s) r.at_).2.1 (numE r most), if numE r most ≠ 0 then 0 else (getN (bl r.s) r.at_).1) := by rw [rdNum, if_neg (by omega)]
  refine AWP.skip (thenA_n ?_)
  refine sr fun _ => ?_
  refine ρ5 U131 sz9 ?_
  refine ρa U9 ?_
  refine ρ5 U131 sz3 ?_
  refine ρa U3 ?_
  refine ρg cf124 (fun hg => getR_fn r.s r.at_ h.2.2) ?_
  refine mv ?_
  refine ρ6 ?_
  refine ρ6 ?_
  refine ρ6 ?_
  refine ma ?_
  refine ma ?_
  refine mz ?_
  refine AWP.seq ?_
  refine sr fun _ => ?_
  refine mv ?_
  refine ρ2 ?_
  refine mv ?_
  refine ρk ?_
  refine ρk ?_
  refine ρu ?_
  refine ρ0 ?_
  refine ez ?_
  refine ρp (fun h1 => ?_) (fun h1 => ?_)
  · simp at h1
    have hne : numE r most = 3 := by rw [numE, if_pos (by omega)]
    rw [hne] at hde
    refine AWP.region (fun _ => ?_)
    refine mz ?_
    refine AWP.seq ?_
    refine sr fun _ => ?_
    refine mv ?_
    refine ρ2 ?_
    refine ez ?_
    refine ρp (fun h2 => ?_) (fun h2 => ?_)
    · refine AWP.region (fun _ => ?_)
      refine mz ?_
      refine sr fun _ => ?_
      refine ρq U131 sz131 ?_
      refine mv ?_
      refine mv ?_
      refine ARun.call rfl rfl rfl rfl cf125 (ep rfl) (.cons (ep rfl) (.cons (ep rfl) (.cons (ep rfl) (.cons (ep rfl) .nil)))) rfl (fun hg => moved_R r tNum (getN (bl r.s) r.at_).2.1 3) optN ?_
      refine mv ?_
      refine ρ1 sz131 ?_
      refine mz ?_
      refine AWP.ret ?_
      refine ρf (rs := [.cell 4 131, .tmp 5]) (.cons (.cellA rfl ((hG.at _ _).trans rfl) U131 rfl sz131 rfl rfl) (.cons (.tmp rfl) .nil)) ?_
      rw [hde]; rfl
    simp at h2
  have h1' : ¬ ((getN (bl r.s) r.at_).2.2 = 0 ∧ (getN (bl r.s) r.at_).1 > most) := by simp at h1; omega
  have hne : numE r most = (getN (bl r.s) r.at_).2.2 := by rw [numE, if_neg h1']
  rw [hne] at hde
  refine AWP.skip (thenA_n (AWP.seq ?_))
  refine sr fun _ => ?_
  refine mv ?_
  refine ρ2 ?_
  refine ez ?_
  refine ρp (fun h3 => ?_) (fun h3 => ?_)
  · simp at h3
    refine AWP.region (fun _ => ?_)
    refine mz ?_
    refine sr fun _ => ?_
    refine ρq U131 sz131 ?_
    refine mv ?_
    refine mv ?_
    refine ARun.call rfl rfl rfl rfl cf125 (ep rfl) (.cons (ep rfl) (.cons (ep rfl) (.cons (ep rfl) (.cons (ep rfl) .nil)))) rfl (fun hg => moved_R r tNum (getN (bl r.s) r.at_).2.1 (getN (bl r.s) r.at_).2.2) optN ?_
    refine mv ?_
    refine ρ1 sz131 ?_
    refine mz ?_
    refine AWP.ret ?_
    refine ρf (rs := [.cell 4 131, .tmp 5]) (.cons (.cellA rfl ((hG.at _ _).trans rfl) U131 rfl sz131 rfl rfl) (.cons (.tmp rfl) .nil)) ?_
    rw [hde, if_pos h3]; rfl
  simp at h3
  refine AWP.skip (thenA_n ?_)
  refine sr fun _ => ?_
  refine ρq U131 sz131 ?_
  refine mv ?_
  refine mv ?_
  refine ARun.call rfl rfl rfl rfl cf125 (ep rfl) (.cons (ep rfl) (.cons (ep rfl) (.cons (ep rfl) (.cons (ep rfl) .nil)))) rfl (fun hg => moved_R r tNum (getN (bl r.s) r.at_).2.1 (getN (bl r.s) r.at_).2.2) optN ?_
  refine mv ?_
  refine ρ1 sz131 ?_
  refine mz ?_
  refine AWP.ret ?_
  refine ρf (rs := [.cell 4 131, .tmp 5]) (.cons (.cellA rfl ((hG.at _ _).trans rfl) U131 rfl sz131 rfl rfl) (.cons (.tmp rfl) .nil)) ?_
  rw [hde, if_neg (by omega)]; rfl
set_option maxHeartbeats 1000000 in
theorem row_R (r : RdS) (most : Int) (h : r.ok) : FnP Tryz.prog 90 [aIn r, .int .i64 most] (.tup [aIn (rdRow r most).1, .sl ((rdRow r most).2.map (AV.int .i64))]) := by
  refine FnP.of Tryz.func90 rfl rfl (by simp) (by simp [AV.cells, aIn]) (fun G hG => ?_)
  have hN : NoH G.length (.tup [aIn (rdRow r most).1, .sl ((rdRow r most).2.map (AV.int .i64))]) := (by simp [AV.cells, aIn])
  refine sr fun _ => ?_
  refine ρx ?_
  refine ρo (j := 0) zv131 ?_
  refine mz ?_
  refine AWP.seq ?_
  refine sr fun _ => ?_
  refine ρ5 U131 sz3 ?_
  refine ρa U3 ?_
  refine ρ2 ?_
  refine ez ?_
  refine ρp (fun h0 => ?_) (fun h0 => ?_)
  · have he : r.e ≠ 0 := by simpa using h0
    refine sr fun _ => ?_
    refine ρq U131 sz131 ?_
    refine ρ1 sz131 ?_
    refine mz ?_
    refine AWP.ret (thenA_r ?_)
    refine ρf (rs := [.cell 4 131, .tmp 5]) (.cons (.cellA rfl ((hG.at _ _).trans rfl) U131 rfl sz131 rfl rfl) (.cons (.tmp rfl) .nil)) ?_
    rw [rdRow, if_pos he]; rfl
  have he : r.e = 0 := by simpa using h0
  have hde : rdRow r most = (r.moved tRow (unrowN (bl r.s) r.at_ most).2.1 (unrowN (bl r.s) r.at_ most).2.2, (unrowN (bl r.s) r.at_ most).1) := by rw [rdRow, if_neg (by omega)]
  refine AWP.skip (thenA_n ?_)
  refine sr fun _ => ?_
  refine ρ5 U131 sz9 ?_
  refine ρa U9 ?_
  refine ρ5 U131 sz3 ?_
  refine ρa U3 ?_
  refine mv ?_
  refine ARun.call rfl rfl rfl rfl cf126 (ep rfl) (.cons (ep rfl) (.cons (ep rfl) (.cons (ep rfl) .nil))) rfl (fun hg => unrowR_fn r.s r.at_ most h.2.2) optN ?_
  refine mv ?_
  refine ρ6 ?_
  refine ρ6 ?_
  refine ρ6 ?_
  refine ma ?_
  refine ma ?_
  refine mz ?_
  refine sr fun _ => ?_
  refine ρq U131 sz131 ?_
  refine mv ?_
  refine mv ?_
  refine ARun.call rfl rfl rfl rfl cf125 (ep rfl) (.cons (ep rfl) (.cons (ep rfl) (.cons (ep rfl) (.cons (ep rfl) .nil)))) rfl (fun hg => moved_R r tRow (unrowN (bl r.s) r.at_ most).2.1 (unrowN (bl r.s) r.at_ most).2.2) optN ?_
  refine mv ?_
  refine ρ1 sz131 ?_
  refine mz ?_
  refine AWP.ret ?_
  refine ρf (rs := [.cell 4 131, .tmp 5]) (.cons (.cellA rfl ((hG.at _ _).trans rfl) U131 rfl sz131 rfl rfl) (.cons (.tmp rfl) .nil)) ?_
  rw [hde]; rfl
set_option maxHeartbeats 1000000 in
theorem end_R (r : RdS) : FnP Tryz.prog 91 [aIn r] (aIn (rdEnd r)) := by
  refine FnP.of Tryz.func91 rfl rfl (by simp) (by simp [AV.cells, aIn, aOut]) (fun G hG => ?_)
  have hN : NoH G.length (aIn (rdEnd r)) := (by simp [AV.cells, aIn, aOut])
  refine sr fun _ => ?_
  refine ρx ?_
  refine ρo (j := 0) zv131 ?_
  refine ez ?_
  refine AWP.seq ?_
  refine sr fun _ => ?_
  refine ρ5 U131 sz3 ?_
  refine ρa U3 ?_
  refine ρ2 ?_
  refine mv ?_
  refine ρc U131 sz3 ?_
  refine ρ8 U3 ?_
  refine ρc U131 sz9 ?_
  refine ρ8 U9 ?_
  refine ARun.lenStr rfl rfl rfl rfl U9 (Ev.opt rfl (fun h => h)) optS ?_
  refine ρu ?_
  refine ρ0 ?_
  refine ez ?_
  refine ρp (fun h0 => ?_) (fun h0 => ?_)
  · simp at h0
    refine sr fun _ => ?_
    refine ρq U131 sz131 ?_
    refine ARun.call rfl rfl rfl rfl cf125 (ep rfl) (.cons (ep rfl) (.cons (ep rfl) (.cons (ep rfl) (.cons (ep rfl) .nil)))) rfl (fun hg => moved_R r tEnd 0 6) optN ?_
    refine ρ1 sz131 ?_
    refine ez ?_
    refine AWP.ret (thenA_r ?_)
    refine endF.one (.inr rfl) rfl (.cellA rfl ((hG.at _ _).trans rfl) U131 rfl sz131 rfl rfl) ?_ hN
    rw [rdEnd, if_pos h0]; rfl
  simp at h0
  refine AWP.skip (thenA_n ?_)
  refine sr fun _ => ?_
  refine ρq U131 sz131 ?_
  refine ρ1 sz131 ?_
  refine ez ?_
  refine AWP.ret ?_
  refine endF.one (.inr rfl) rfl (.cellA rfl ((hG.at _ _).trans rfl) U131 rfl sz131 rfl rfl) ?_ hN
  rw [rdEnd, if_neg (by omega)]; rfl
set_option maxHeartbeats 1000000 in
theorem lay_R (w : WrS) (p : ByteArray) (u : List UInt8) (s : ByteArray) (hs : s = bs u) (e : Int) (hl : w.s.length + u.length ≤ 10000000) : FnP Tryz.prog 151 [aOut w, .str p, .str s, .int .i64 e] (aOut (wrPut w p u e)) := by
  subst hs
  have hol := out_len w
  refine FnP.of Tryz.func151 rfl rfl (by simp) (by simp [AV.cells, aIn, aOut]) (fun G hG => ?_)
  have hN : NoH G.length (aOut (wrPut w p u e)) := (by simp [AV.cells, aIn, aOut])
  refine sr fun _ => ?_
  refine ARun.box (j := 0) hG rfl rfl rfl rfl rfl (ep rfl) rfl rfl optN ?_
  refine ρo (j := 1) zv178 ?_
  refine ez ?_
  refine AWP.seq ?_
  refine sr fun _ => ?_
  refine ρ4 (fo := 2) U178 sz3 ?_
  refine ρd U3 ?_
  refine ρ2 ?_
  refine ez ?_
  refine ρp (fun h0 => ?_) (fun h0 => ?_)
  · simp at h0
    refine sr fun _ => ?_
    refine ρi U178 sz178 ?_
    refine ρ1 sz178 ?_
    refine ez ?_
    refine AWP.ret (thenA_r ?_)
    refine endF.one (.inr rfl) rfl (.cellA rfl ((hG.at _ _).trans rfl) U178 rfl sz178 rfl rfl) ?_ hN
    rw [wrPut, if_pos h0]; rfl
  simp at h0
  refine AWP.skip (thenA_n (AWP.seq ?_))
  refine sr fun _ => ?_
  refine mv ?_
  refine ρ2 ?_
  refine ez ?_
  refine ρp (fun h1 => ?_) (fun h1 => ?_)
  · simp at h1
    refine sr fun _ => ?_
    refine mv ?_
    refine mv ?_
    refine ARun.build rfl rfl rfl rfl so178 (.cons (ep rfl) (.cons (ep rfl) .nil)) rfl rfl optN ?_
    refine ρ1 sz178 ?_
    refine ez ?_
    refine AWP.ret (thenA_r ?_)
    refine endF.one (.inr rfl) rfl (.cellA rfl ((hG.at _ _).trans rfl) U178 rfl sz178 rfl rfl) ?_ hN
    rw [wrPut, if_neg (by omega), if_pos h1]; simp [aOut, WrS.out, h1]; rfl
  simp at h1
  refine AWP.skip (thenA_n ?_)
  refine sr fun _ => ?_
  refine ρ4 (fo := 0) U178 sz9 ?_
  refine ρd U9 ?_
  refine mv ?_
  refine ARun.cat rfl rfl rfl rfl (ep rfl) (ep rfl) (fun hg => (by rw [bs_size]; omega)) optN ?_
  refine ρ4 (fo := 0) U178 sz9 ?_
  refine ρs sz9 ?_
  refine ez ?_
  refine sr fun _ => ?_
  refine ρi U178 sz178 ?_
  refine ρ1 sz178 ?_
  refine ez ?_
  refine AWP.ret ?_
  refine endF.one (.inr rfl) rfl (.cellA rfl ((hG.at _ _).trans rfl) U178 rfl sz178 rfl rfl) ?_ hN
  rw [wrPut, if_neg (by omega), if_neg (by omega)]; simp [aOut, WrS.out, h0, bs_append]; rfl
set_option maxHeartbeats 1000000 in
theorem nums_R (w : WrS) (l : List Int) (hll : l.length ≤ 1000) (hl : w.s.length ≤ 1000000) (hf : ∀ x, x ∈ l → -9223372036854775808 ≤ x ∧ x ≤ 9223372036854775807) : FnP Tryz.prog 123 [aOut w, .sl (l.map (AV.int .i64))] (aOut (wrNums w l)) := by
  refine FnP.of Tryz.func123 rfl rfl (by simp) (by simp [AV.cells, aIn, aOut]) (fun G hG => ?_)
  have hN : NoH G.length (aOut (wrNums w l)) := (by simp [AV.cells, aIn, aOut])
  refine sr fun _ => ?_
  refine ARun.box (j := 0) hG rfl rfl rfl rfl rfl (ep rfl) rfl rfl optN ?_
  refine ρo (j := 1) zv178 ?_
  refine ez ?_
  refine AWP.seq ?_
  refine sr fun _ => ?_
  refine mz ?_
  refine AWP.block ?_
  refine AWP.rounds (fun k => k ≤ l.length) (fun k => [(1, .sl (l.map (AV.int .i64))), (2, .box (G.length + 0) 0), (4, .box (G.length + 1) 0), (5, .int .i64 (k : Int))]) (fun k => [.box [.str (wrNums w (l.take k)).out, .str (wrNums w (l.take k)).p, .int .i64 (wrNums w (l.take k)).e], .box [.str ⟨#[]⟩, .str ⟨#[]⟩, .int .i64 0]]) (fun k => l.length - k) 2 0 (Nat.zero_le _) (by repeat (first | exact .nil | refine .cons rfl ?_)) rfl (fun _ => rfl) (fun _ => ⟨by simp [AV.cells], by simp [AO.conts]⟩) (fun k hI => ?_)
  have hwl := wrNums_len (l.take k) w
  have htl : (l.take k).length ≤ k := by rw [List.length_take]; omega
  refine AWP.seq ?_
  refine sr fun _ => ?_
  refine mv ?_
  refine mv ?_
  refine ρv U29 ?_
  refine ρ2 ?_
  refine ez ?_
  refine ρp (fun h0 => ?_) (fun h0 => ?_)
  · try simp [-List.getD_eq_getElem?_getD] at h0
    refine AWP.skip (thenA_n ?_)
    refine AWP.seq (AWP.block ?_)
    refine sr fun _ => ?_
    refine mv ?_
    refine mv ?_
    first | refine ρe U29 sz3 ?_ | refine ρ7 U29 sz3 ?_
    refine ρa U3 ?_
    refine ρz cf152 ?_ (hF := fun hg => putR_fn _ (fit_at hf (by simpa using h0)))
    refine mv ?_
    refine ρ6 ?_
    refine ρ6 ?_
    refine ma ?_
    refine mz ?_
    refine AWP.region (fun _ => ?_)
    refine ρi U178 sz178 ?_
    refine mv ?_
    refine mv ?_
    refine ARun.call rfl rfl rfl rfl cf151 (ep rfl) (.cons (ep rfl) (.cons (ep rfl) (.cons (ep rfl) (.cons (ep rfl) .nil)))) rfl (fun hg => lay_R (wrNums w (l.take k)) tNum (putN (l.getD k default)).1 _ rfl (putN (l.getD k default)).2 (by have := putN_len (l.getD k default); omega)) optN ?_
    refine ρ1 sz178 ?_
    refine ⟨_, _, rfl, hG, ?_⟩
    refine blockA_n (thenA_n ?_)
    refine AWP.region (fun _ => ?_)
    refine mv ?_
    first | refine ρb ?_ | refine ρl ?_
    refine ma ?_
    refine ⟨_, _, rfl, hG, ?_⟩
    refine thenA_n ⟨rfl, k + 1, [], ?_, ?_, ?_, ?_⟩
    · omega
    · repeat (first | exact .nil | refine .cons rfl ?_)
    · rw [wrNums_succ w l k (by simpa using h0)]; rfl
    omega
  simp at h0
  obtain rfl : k = l.length := by omega
  rw [List.take_length]
  refine AWP.exit ?_
  refine thenA_x ?_
  refine thenA_x ?_
  refine blockA_h ?_
  refine thenA_n ?_
  refine sr fun _ => ?_
  refine ρi U178 sz178 ?_
  refine ρ1 sz178 ?_
  refine ez ?_
  refine AWP.ret ?_
  refine endF.one (.inr rfl) rfl (.cellA rfl ((hG.at _ _).trans rfl) U178 rfl sz178 rfl rfl) ?_ hN
  rfl
set_option maxHeartbeats 1000000 in
theorem row_W (w : WrS) (l : List Int) (hll : l.length ≤ 10000) (hl : w.s.length ≤ 1000000) (hf : ∀ x, x ∈ l → -9223372036854775808 ≤ x ∧ x ≤ 9223372036854775807) : FnP Tryz.prog 122 [aOut w, .sl (l.map (AV.int .i64))] (aOut (wrRow w l)) := by
  have hrl := rowN_len l
  refine FnP.of Tryz.func122 rfl rfl (by simp) (by simp [AV.cells, aIn, aOut]) (fun G hG => ?_)
  have hN : NoH G.length (aOut (wrRow w l)) := (by simp [AV.cells, aIn, aOut])
  refine sr fun _ => ?_
  refine ARun.box (j := 0) hG rfl rfl rfl rfl rfl (ep rfl) rfl rfl optN ?_
  refine ρo (j := 1) zv178 ?_
  refine ez ?_
  refine sr fun _ => ?_
  refine mv ?_
  refine ρm cf150 (fun hg => rowR_fn l hll hf) ?_
  refine mv ?_
  refine ρ6 ?_
  refine ρ6 ?_
  refine ma ?_
  refine mz ?_
  refine sr fun _ => ?_
  refine ρi U178 sz178 ?_
  refine mv ?_
  refine mv ?_
  refine ARun.call rfl rfl rfl rfl cf151 (ep rfl) (.cons (ep rfl) (.cons (ep rfl) (.cons (ep rfl) (.cons (ep rfl) .nil)))) rfl (fun hg => lay_R w tRow (rowN l).1 _ rfl (rowN l).2 (by omega)) optN ?_
  refine ρ1 sz178 ?_
  refine ez ?_
  refine AWP.ret ?_
  refine endF.one (.inr rfl) rfl (.cellA rfl ((hG.at _ _).trans rfl) U178 rfl sz178 rfl rfl) ?_ hN
  rfl
end Go.Proofs.YtgebpndhnkkbgaaGreatDoor
