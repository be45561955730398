/- The basket: the plain law: what lacks is added. -/
import Derived.Test.YtfnmaemeofkagaaBasketLawP2
namespace Go.Proofs.Ytfnmaemeofkagaa.StockP
abbrev inF (ys : List It) (i q : Int) : List It × Int := withP (inG q) ys i q
def adq (i q : Int) (y : It) : It := if y.id = i then ⟨y.id, y.free + q, y.held, y.gone⟩ else y
theorem adq_id (i q : Int) (y : It) : (adq i q y).id = y.id := by unfold adq; split <;> rfl
theorem in_one {ys : List It} {i q : Int} (h : (inF ys i q).2 = 0) : 1 ≤ q ∧ ok (inF ys i q).1 = true ∧ (inF ys i q).1 = ys.map (adq i q) ∧ (findT ys i).2 = true := by
  unfold inF withP at h ⊢
  by_cases ha : askedB ys q = true
  · rw [if_pos ha] at h ⊢
    have hok := (askedB_ok ha).1
    by_cases hp : place (fun x => x.id == i) ys < ys.length
    · rw [dif_pos hp] at h ⊢
      have hpi : (ys[place (fun x => x.id == i) ys]).id = i := by have := place_at (fun x => x.id == i) ys hp; simpa using this
      by_cases hg : (inG q ys[place (fun x => x.id == i) ys]).2 = 0
      · rw [if_pos hg] at h ⊢
        have hm : may ⟨(ys[place (fun x => x.id == i) ys]).id, (ys[place (fun x => x.id == i) ys]).free + q, (ys[place (fun x => x.id == i) ys]).held, (ys[place (fun x => x.id == i) ys]).gone⟩ = true := by
          unfold inG at hg
          split at hg
          · assumption
          · simp at hg
        have he : (inG q ys[place (fun x => x.id == i) ys]).1 = (fun y : It => (⟨y.id, y.free + q, y.held, y.gone⟩ : It)) ys[place (fun x => x.id == i) ys] := by
          unfold inG; rw [if_pos hm]
        have hs := set_map (ok_from hok) i (fun y : It => (⟨y.id, y.free + q, y.held, y.gone⟩ : It)) hp
        rw [he, hs]
        refine ⟨(askedB_ok ha).2.1, okd (by simpa using ok_len hok) (ok_map' (adq_id i q) ys 0 (ok_from hok) fun y hy => ?_), rfl, ?_⟩
        · unfold adq
          split
          · rename_i hyi
            have hx := uniq (ok_from hok) hy (x := ys[place (fun x => x.id == i) ys]) (by rw [hyi, find_place, dif_pos hp])
            rw [hx] at hm
            exact hm
          · exact ok_may hok y hy
        · rw [findT_place, dif_pos hp]
      · rw [if_neg hg] at h; exact absurd h hg
    · rw [dif_neg hp] at h; simp at h
  · rw [if_neg ha] at h; simp at h
theorem findT_adq (ys : List It) (i q j : Int) : (findT (ys.map (adq i q)) j).2 = (findT ys j).2 ∧ ((findT ys j).2 = true → (findT (ys.map (adq i q)) j).1.free = (findT ys j).1.free + if j = i then q else 0) := by
  unfold findT
  rw [find_map (adq_id i q)]
  cases h : find ys j with
  | none => exact ⟨rfl, fun h => by simp at h⟩
  | some x =>
    have := find_id h
    refine ⟨rfl, fun _ => ?_⟩
    simp only [Option.map_some, adq]
    rw [this]
    split <;> simp
/-- what lacks is added, one behind the other -/
def rsP : List It → List Ln → Option (List It)
  | ys, [] => some ys
  | ys, m :: lk => if (inF ys m.item m.qty).2 = 0 then rsP (inF ys m.item m.qty).1 lk else none
theorem rsP_snoc (lk : List Ln) (m : Ln) : ∀ ys zs, rsP ys lk = some zs → rsP ys (lk ++ [m]) = if (inF zs m.item m.qty).2 = 0 then some (inF zs m.item m.qty).1 else none := by
  induction lk with
  | nil => intro ys zs h; cases h; rfl
  | cons x lk ih =>
    intro ys zs h
    simp only [rsP] at h
    split at h
    · rename_i hx
      show (if (inF ys x.item x.qty).2 = 0 then rsP (inF ys x.item x.qty).1 (lk ++ [m]) else none) = _
      rw [if_pos hx]; exact ih _ _ h
    · cases h
theorem rsP_law (lk : List Ln) : ∀ ys zs, ok ys = true → rsP ys lk = some zs → ok zs = true ∧ (∀ j, (findT zs j).2 = (findT ys j).2 ∧ ((findT ys j).2 = true → (findT ys j).1.free ≤ (findT zs j).1.free)) ∧
    ∀ m, m ∈ lk → (findT ys m.item).2 = true ∧ (findT ys m.item).1.free + m.qty ≤ (findT zs m.item).1.free := by
  induction lk with
  | nil => intro ys zs h hr; cases hr; exact ⟨h, fun j => ⟨rfl, fun _ => Int.le_refl _⟩, fun m hm => by cases hm⟩
  | cons x lk ih =>
    intro ys zs h hr
    simp only [rsP] at hr
    split at hr
    · rename_i hx
      obtain ⟨hq, hok, he, hf⟩ := in_one hx
      obtain ⟨k1, k2, k3⟩ := ih _ _ hok hr
      rw [he] at k2 k3
      refine ⟨k1, fun j => ?_, fun m hm => ?_⟩
      · have h1 := findT_adq ys x.item x.qty j
        have h2 := k2 j
        refine ⟨h2.1.trans h1.1, fun hj => ?_⟩
        have h3 := h2.2 (by rw [h1.1]; exact hj)
        have h4 := h1.2 hj
        split at h4 <;> omega
      · cases hm with
        | head =>
          refine ⟨hf, ?_⟩
          have h1 := findT_adq ys x.item x.qty x.item
          have h2 := k2 x.item
          have h3 := h2.2 (by rw [h1.1]; exact hf)
          have h4 := h1.2 hf
          rw [if_pos rfl] at h4
          omega
        | tail _ hm =>
          have h1 := findT_adq ys x.item x.qty m.item
          have h2 := k3 m hm
          have hfm : (findT ys m.item).2 = true := by rw [← h1.1]; exact h2.1
          refine ⟨hfm, ?_⟩
          have h4 := h1.2 hfm
          split at h4 <;> omega
    · cases hr
theorem lacksF_mem {xs : List It} {ls : List Ln} {l : Ln} (hl : l ∈ ls) (h : ¬ l.qty ≤ (findT xs l.item).1.free) : (⟨l.item, l.qty - (findT xs l.item).1.free⟩ : Ln) ∈ lacksF xs ls := by
  induction ls with
  | nil => cases hl
  | cons m ls ih =>
    simp only [lacksF]
    cases hl with
    | head => rw [if_neg h]; exact List.mem_cons_self
    | tail _ hl =>
      split
      · exact ih hl
      · exact List.mem_cons_of_mem _ (ih hl)
theorem added_fits {xs zs : List It} {ls : List Ln} (h : ok xs = true) (hl : okL ls = true) (hr : rsP xs (lacksF xs ls) = some zs) : fitsP zs ls = true := by
  obtain ⟨k1, k2, k3⟩ := rsP_law _ _ _ h hr
  rw [fits_can]
  refine ⟨k1, hl, fun l hm => ?_⟩
  have hb := okLFrom_mem (okL_from hl) l hm
  unfold can
  by_cases hc : l.qty ≤ (findT xs l.item).1.free
  · have hf : (findT xs l.item).2 = true := by
      unfold findT at hc ⊢
      cases hfd : find xs l.item with
      | none => rw [hfd] at hc; simp at hc; omega
      | some x => rfl
    have := k2 l.item
    exact ⟨by rw [this.1]; exact hf, Int.le_trans hc (this.2 hf)⟩
  · have h3 := k3 _ (lacksF_mem hm hc)
    simp only at h3
    exact ⟨by rw [(k2 l.item).1]; exact h3.1, by omega⟩
theorem lacksF_qty {xs : List It} {ls : List Ln} (hx : ok xs = true) (h : ∀ l, l ∈ ls → 1 ≤ l.item ∧ l.item ≤ 99999 ∧ l.qty ≤ 1000000) : ∀ m, m ∈ lacksF xs ls → 1 ≤ m.item ∧ m.item ≤ 99999 ∧ 1 ≤ m.qty ∧ m.qty ≤ 1000000 := by
  induction ls with
  | nil => intro m hm; cases hm
  | cons l ls ih =>
    have h1 := h l List.mem_cons_self
    have hb := findT_bd hx l.item
    have ih' := ih fun m hm => h m (List.mem_cons_of_mem _ hm)
    intro m hm
    simp only [lacksF] at hm
    split at hm
    · exact ih' m hm
    · rename_i hc
      cases hm with
      | head => simp only; omega
      | tail _ hm => exact ih' m hm
end Go.Proofs.Ytfnmaemeofkagaa.StockP
