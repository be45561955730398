/- The basket: the plain law of what is done with all lines. -/
import Derived.Test.YtfnmaemeofkagaaBasketPlain
import Derived.Test.YtfnmaemeofkagaaStockRefP
namespace Go.Proofs.Ytfnmaemeofkagaa.StockP
/-- so many go from free to held at the item of that number -/
def upd (i q : Int) (y : It) : It := if y.id = i then ⟨y.id, y.free - q, y.held + q, y.gone⟩ else y
/-- how many lines ask for an item -/
def sumOf : List Ln → Int → Int
  | [], _ => 0
  | l :: ls, i => (if i = l.item then l.qty else 0) + sumOf ls i
def mv (s : Int) (y : It) : It := ⟨y.id, y.free - s, y.held + s, y.gone⟩
theorem upd_mv (i q : Int) (y : It) : upd i q y = mv (if y.id = i then q else 0) y := by
  unfold upd mv; split <;> simp
theorem mv_mv (s t : Int) (y : It) : mv s (mv t y) = mv (t + s) y := by
  unfold mv; simp only [It.mk.injEq, true_and, and_true]; omega
theorem mv_zero (y : It) : mv 0 y = y := by unfold mv; simp
def can (ys : List It) (l : Ln) : Prop := (findT ys l.item).2 = true ∧ l.qty ≤ (findT ys l.item).1.free
def canF (ys : List It) (l : Ln) : Prop := (findT ys l.item).2 = true ∧ l.qty ≤ (findT ys l.item).1.held
instance (ys : List It) (l : Ln) : Decidable (can ys l) := by unfold can; infer_instance
instance (ys : List It) (l : Ln) : Decidable (canF ys l) := by unfold canF; infer_instance
theorem find_map {f : It → It} (hf : ∀ y, (f y).id = y.id) (ys : List It) (i : Int) : find (ys.map f) i = (find ys i).map f := by
  induction ys with
  | nil => rfl
  | cons y ys ih =>
    unfold find at *
    rw [List.map_cons, List.find?_cons, List.find?_cons, hf]
    cases h : (y.id == i) with
    | true => rfl
    | false => simp only [ih]
theorem find_id {ys : List It} {i : Int} {x : It} (h : find ys i = some x) : x.id = i := by
  have := List.find?_some h
  simpa using this
theorem findT_map {f : It → It} (hf : ∀ y, (f y).id = y.id) (ys : List It) (i : Int) (he : ∀ y, y.id = i → f y = y) : findT (ys.map f) i = findT ys i := by
  unfold findT
  rw [find_map hf]
  cases h : find ys i with
  | none => rfl
  | some x => rw [Option.map_some, he x (find_id h)]
theorem set_map {p : Int} {ys : List It} (h : okFrom p ys = true) (i : Int) (f : It → It) (hp : place (fun x => x.id == i) ys < ys.length) :
    ys.set (place (fun x => x.id == i) ys) (f ys[place (fun x => x.id == i) ys]) = ys.map fun y => if y.id = i then f y else y := by
  induction ys generalizing p with
  | nil => simp at hp
  | cons y ys ih =>
    simp only [okFrom, Bool.and_eq_true, decide_eq_true_eq] at h
    have hlt := okFrom_lt h.2
    by_cases e : y.id = i
    · have e2 : place (fun x => x.id == i) (y :: ys) = 0 := by rw [place_cons, if_pos (by simpa using e)]
      simp only [e2, List.getElem_cons_zero, List.set_cons_zero, List.map_cons]
      rw [if_pos e]
      congr 1
      symm
      rw [List.map_congr_left (g := id) (fun z hz => by have := hlt z hz; rw [if_neg (by omega)]; rfl)]
      simp
    · have e2 : place (fun x => x.id == i) (y :: ys) = place (fun x => x.id == i) ys + 1 := by rw [place_cons, if_neg (by simpa using e)]
      simp only [e2, List.getElem_cons_succ, List.set_cons_succ, List.map_cons]
      rw [if_neg e, ih h.2 (by rw [e2] at hp; simpa using hp)]
theorem ok_map {f : It → It} (hf : ∀ y, (f y).id = y.id) (hm : ∀ y, may y = true → may (f y) = true ∨ False) (ys : List It) : ∀ p, okFrom p ys = true → okFrom p (ys.map f) = true := by
  induction ys with
  | nil => intro p _; rfl
  | cons y ys ih =>
    intro p h
    simp only [List.map_cons, okFrom, Bool.and_eq_true, decide_eq_true_eq, hf] at h ⊢
    exact ⟨⟨(hm y h.1.1).resolve_right id, h.1.2⟩, ih _ h.2⟩
theorem ok_map' {f : It → It} (hf : ∀ y, (f y).id = y.id) (ys : List It) : ∀ p, okFrom p ys = true → (∀ y, y ∈ ys → may (f y) = true) → okFrom p (ys.map f) = true := by
  induction ys with
  | nil => intro p _ _; rfl
  | cons y ys ih =>
    intro p h hm
    simp only [List.map_cons, okFrom, Bool.and_eq_true, decide_eq_true_eq, hf] at h ⊢
    exact ⟨⟨hm y List.mem_cons_self, h.1.2⟩, ih _ h.2 fun z hz => hm z (List.mem_cons_of_mem _ hz)⟩
theorem okd {ys : List It} (h1 : ys.length ≤ 20) (h2 : okFrom 0 ys = true) : ok ys = true := by unfold ok; simp; exact ⟨h1, h2⟩
theorem asked_mk {ys : List It} {q : Int} (h : ok ys = true) (h1 : 1 ≤ q) (h2 : q ≤ 1000000) : askedB ys q = true := by unfold askedB; rw [h]; simp; omega
theorem uniq {p : Int} {ys : List It} (h : okFrom p ys = true) {y x : It} (hy : y ∈ ys) (hx : find ys y.id = some x) : x = y := by
  induction ys generalizing p with
  | nil => cases hy
  | cons z ys ih =>
    simp only [okFrom, Bool.and_eq_true, decide_eq_true_eq] at h
    have hlt := okFrom_lt h.2
    unfold find at hx
    rw [List.find?_cons] at hx
    cases hy with
    | head => simp at hx; exact hx.symm
    | tail _ hy =>
      have := hlt y hy
      have e : (z.id == y.id) = false := by simp; omega
      rw [e] at hx
      exact ih h.2 hy hx
/-- one line held -/
theorem hold_one {ys : List It} (h : ok ys = true) (l : Ln) (h1 : 1 ≤ l.qty) (h2 : l.qty ≤ 1000000) :
    (can ys l → withP (holdG l.qty) ys l.item l.qty = (ys.map (upd l.item l.qty), 0) ∧ ok (ys.map (upd l.item l.qty)) = true) ∧
    (¬ can ys l → (withP (holdG l.qty) ys l.item l.qty).2 ≠ 0 ∧ (withP (holdG l.qty) ys l.item l.qty).1 = []) := by
  have ha := asked_mk h h1 h2
  unfold can withP
  rw [if_pos ha, findT_place]
  by_cases hp : place (fun x => x.id == l.item) ys < ys.length
  · rw [dif_pos hp, dif_pos hp]
    have hm := may_bd (ok_may h _ (List.getElem_mem hp))
    have hi : (ys[place (fun x => x.id == l.item) ys]).id = l.item := by have := place_at (fun x => x.id == l.item) ys hp; simpa using this
    have hs := set_map (ok_from h) l.item (fun y => (holdG l.qty y).1) hp
    refine ⟨fun hc => ?_, fun hc => ?_⟩
    · simp only at hc
      have hz : (holdG l.qty ys[place (fun x => x.id == l.item) ys]).2 = 0 := by unfold holdG lentE; simp only; rw [if_neg (by omega)]
      rw [if_pos hz, hs]
      refine ⟨rfl, okd (by simpa using ok_len h) (ok_map' (fun y => by unfold upd; split <;> rfl) ys 0 (ok_from h) fun y hy => ?_)⟩
      have hmy := ok_may h y hy
      unfold upd
      split
      · rename_i hyi
        have hx := uniq (ok_from h) hy (x := ys[place (fun x => x.id == l.item) ys]) (by rw [hyi, find_place, dif_pos hp])
        have hf : l.qty ≤ y.free := by rw [← hx]; exact hc.2
        have := may_bd hmy
        unfold may at hmy ⊢; simp at hmy ⊢; omega
      · exact hmy
    · simp only [true_and] at hc
      have hz : (holdG l.qty ys[place (fun x => x.id == l.item) ys]).2 = 42 := by unfold holdG lentE; simp only; rw [if_pos (by omega)]
      rw [if_neg (by rw [hz]; decide), hz]
      exact ⟨by decide, rfl⟩
  · rw [dif_neg hp, dif_neg hp]
    exact ⟨fun hc => by simp at hc, fun _ => ⟨by decide, rfl⟩⟩
theorem upd_id (i q : Int) (y : It) : (upd i q y).id = y.id := by unfold upd; split <;> rfl
theorem can_upd {ys : List It} {l m : Ln} (h : l.item ≠ m.item) : can (ys.map (upd l.item l.qty)) m ↔ can ys m := by
  unfold can
  rw [findT_map (upd_id _ _) ys m.item (fun y hy => by unfold upd; rw [if_neg (by omega)])]
/-- all lines held -/
theorem hold_all (ls : List Ln) : ∀ (p k : Int) (ys : List It), ok ys = true → okLFrom p ls = true →
    ((∀ l, l ∈ ls → can ys l) → goesP (fun ys i q => withP (holdG q) ys i q) k ys ls = (ys.map (fun y => mv (sumOf ls y.id) y), k + ls.length, 0)) ∧
    (¬ (∀ l, l ∈ ls → can ys l) → (goesP (fun ys i q => withP (holdG q) ys i q) k ys ls).2.2 ≠ 0 ∧ (goesP (fun ys i q => withP (holdG q) ys i q) k ys ls).1 = [] ∧ (goesP (fun ys i q => withP (holdG q) ys i q) k ys ls).2.1 < k + ls.length) := by
  induction ls with
  | nil =>
    intro p k ys h _
    refine ⟨fun _ => ?_, fun hn => absurd (fun l hl => by cases hl) hn⟩
    rw [goesP_nil]
    have : (ys.map fun y => mv (sumOf [] y.id) y) = ys := by
      rw [List.map_congr_left (g := id) (fun y _ => by show mv 0 y = y; exact mv_zero y)]; simp
    rw [this]; simp
  | cons l ls ih =>
    intro p k ys h hl
    have hmem := okLFrom_mem hl
    simp only [okLFrom, Bool.and_eq_true, decide_eq_true_eq] at hl
    have ho := hold_one h l hl.1.2.2.1 hl.1.2.2.2
    have hlater : ∀ m, m ∈ ls → l.item ≠ m.item := fun m hm => by have := okLFrom_mem hl.2 m hm; omega
    by_cases hc : can ys l
    · obtain ⟨e1, e2⟩ := ho.1 hc
      have ih' := ih l.item (k + 1) _ e2 hl.2
      have hiff : (∀ m, m ∈ l :: ls → can ys m) ↔ ∀ m, m ∈ ls → can (ys.map (upd l.item l.qty)) m := by
        constructor
        · intro hh m hm; exact (can_upd (hlater m hm)).2 (hh m (List.mem_cons_of_mem _ hm))
        · intro hh m hm
          cases hm with
          | head => exact hc
          | tail _ hm => exact (can_upd (hlater m hm)).1 (hh m hm)
      rw [goesP_cons]
      simp only [e1, ne_eq, not_true_eq_false, if_false]
      rw [hiff]
      refine ⟨fun hh => ?_, fun hh => ?_⟩
      · rw [ih'.1 hh, List.map_map]
        have hm : (ys.map ((fun y => mv (sumOf ls y.id) y) ∘ upd l.item l.qty)) = ys.map fun y => mv (sumOf (l :: ls) y.id) y := by
          apply List.map_congr_left
          intro y _
          show mv (sumOf ls (upd l.item l.qty y).id) (upd l.item l.qty y) = _
          rw [upd_id, upd_mv, mv_mv]
          rfl
        rw [hm]
        simp only [List.length_cons, Prod.mk.injEq, true_and, and_true]
        push_cast; omega
      · have := ih'.2 hh
        refine ⟨this.1, this.2.1, ?_⟩
        have h3 := this.2.2
        simp only [List.length_cons]; push_cast; omega
    · obtain ⟨e1, e2⟩ := ho.2 hc
      rw [goesP_cons]
      simp only [if_pos e1]
      refine ⟨fun hh => absurd (hh l List.mem_cons_self) hc, fun _ => ⟨e1, trivial, ?_⟩⟩
      simp only [List.length_cons]; push_cast; omega
end Go.Proofs.Ytfnmaemeofkagaa.StockP
