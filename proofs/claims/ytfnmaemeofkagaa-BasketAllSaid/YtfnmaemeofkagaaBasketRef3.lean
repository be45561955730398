/- The basket: the reference's Goes, Fits; Hold, Free. -/
import Derived.Test.YtfnmaemeofkagaaBasketRef2
namespace Go.Proofs.Ytfnmaemeofkagaa
open Go.ChangeShapes Go.WideShapes Go.ChangeAt Go.RowKit
open StockP
set_option maxRecDepth 100000
theorem withP_fit {g : It → It × Int} {l : List It} {id q : Int} (h20 : l.length ≤ 20) (hf : ∀ x, x ∈ l → fitT x) (hg : 1 ≤ q → q ≤ 1000000 → ∀ x, may x = true → (g x).2 = 0 → fitT (g x).1) : (withP g l id q).1.length ≤ 20 ∧ ∀ x, x ∈ (withP g l id q).1 → fitT x := by
  unfold withP
  split
  · rename_i ha
    split
    · rename_i hp
      split
      · rename_i he
        refine ⟨by simpa using h20, fun x hx => ?_⟩
        rcases List.mem_or_eq_of_mem_set hx with hx | rfl
        · exact hf x hx
        · exact hg (askedB_ok ha).2.1 (askedB_ok ha).2.2 _ (ok_may (askedB_ok ha).1 _ (List.getElem_mem hp)) he
      · exact ⟨Nat.zero_le _, fun x hx => by cases hx⟩
    · exact ⟨Nat.zero_le _, fun x hx => by cases hx⟩
  · exact ⟨Nat.zero_le _, fun x hx => by cases hx⟩
theorem hold_fit (ys : List It) (i q : Int) (h20 : ys.length ≤ 20) (hf : ∀ x, x ∈ ys → fitT x) : (withP (holdG q) ys i q).1.length ≤ 20 ∧ ∀ x, x ∈ (withP (holdG q) ys i q).1 → fitT x :=
  withP_fit h20 hf fun h1 h2 x hm _ => by have := may_bd hm; unfold fitT holdG; simp only; omega
theorem free_fit (ys : List It) (i q : Int) (h20 : ys.length ≤ 20) (hf : ∀ x, x ∈ ys → fitT x) : (withP (freeG q) ys i q).1.length ≤ 20 ∧ ∀ x, x ∈ (withP (freeG q) ys i q).1 → fitT x :=
  withP_fit h20 hf fun h1 h2 x hm _ => by have := may_bd hm; unfold fitT freeG; simp only; omega
set_option maxHeartbeats 8000000 in
theorem goesBR1_any (a : Option Addr) (cap : Nat) (xs : List It) (b : Option Addr) (capb : Nat) (ls : List Ln) (w : World) (hr : Reads encT 4 w a xs) (hcap : xs.length ≤ cap ∧ cap ≤ maxLen) (hf : ∀ x, x ∈ xs → fitT x)
    (hr2 : Reads encL 2 w b ls) (hl2 : ls.length ≤ maxLen) :
    Calls Try.prog 8 #[.slice a xs.length cap, .slice b ls.length capb, .int .i64 1] w (GotA (allP (fun ys i q => withP (holdG q) ys i q) xs ls) w) := by
  have hl : xs.length ≤ maxLen := Nat.le_trans hcap.1 hcap.2
  have C := Lib.hid (fun W h => checkR_any a cap xs W h hl hf)
  have D := Lib.hid (fun W h => checkLR_any b capb ls W h hl2)
  have HR := Lib.hid hr
  have HR2 := Lib.hid hr2
  clear hr hr2
  by_cases ho : ok xs = true ∧ okL ls = true
  · have hlp : allP (fun ys i q => withP (holdG q) ys i q) xs ls = goesP (fun ys i q => withP (holdG q) ys i q) 0 xs ls := by unfold allP; rw [if_pos ho]
    rw [hlp]
    have he : okE xs = 0 := by unfold okE; rw [if_pos ho.1]
    have he2 : okLE ls = 0 := by unfold okLE; rw [if_pos ho.2]
    rw [he] at C
    rw [he2] at D
    have h5 : ls.length ≤ 5 := by have h2 := ho.2; unfold okL at h2; simp at h2; omega
    have h20 : xs.length ≤ 20 := ok_len ho.1
    have HF := Lib.hid hf
    have G := Lib.hid (fun ca cc ys i q W (h : Reads encT 4 W ca ys) (hy : ys.length ≤ maxLen) (hfy : ∀ x, x ∈ ys → fitT x) => goesR1_any ca cc ys i q W h hy hfy)
    clear hlp ho hf hl he he2
    go_enter Try.func8, Try.ntmps8
    go_wp2_with fail
    refine (C.out _ HR.out).mono ?_
    rintro e w1 ⟨rfl, hb⟩
    go_wp2_with fail
    refine (D.out _ (HR2.out.below hb)).mono ?_
    rintro e w2 ⟨rfl, hb2⟩
    replace hb := bt hb hb2; clear hb2
    have HB0 := Lib.hid hb
    clear hb
    go_wp2_with fail
    go_loopw [0, 9, 10, 11] (fun v0 v9 v10 v11 wr => ∃ (k : Nat) (cur : List It) (ca : Option Addr) (cc : Nat), k ≤ ls.length ∧ v9 = .int .i64 k ∧ v0 = .slice ca cur.length cc ∧ goesP (fun ys i q => withP (holdG q) ys i q) 0 xs ls = goesP (fun ys i q => withP (holdG q) ys i q) k cur (ls.drop k) ∧
      Reads encT 4 wr ca cur ∧ cur.length ≤ cc ∧ cc ≤ maxLen ∧ cur.length ≤ 20 ∧ (∀ x, x ∈ cur → fitT x) ∧ Below w.heap.size w wr) (fun _ v9 _ _ _ => ls.length - (intOf v9).toNat)
    case atStart => exact ⟨0, xs, a, cap, by omega, rfl, rfl, rfl, HR.out.below HB0.out, hcap.1, hcap.2, h20, HF.out, HB0.out⟩
    case round =>
      obtain ⟨k, cur, ca, cc, hk, rfl, rfl, hg, hrc, hc1, hc2, hc20, hfc, hbel⟩ := hrel
      have HG := Lib.hid hg
      have HRC := Lib.hid hrc
      have HFC := Lib.hid hfc
      clear hg hrc hfc HB0
      by_cases hlt : k < ls.length
      · obtain ⟨bb, off, rfl, hbl, c0, c1⟩ := (HR2.out.below hbel).line k hlt
        have hdr : ls.drop k = ls[k] :: ls.drop (k + 1) := List.drop_eq_getElem_cons hlt
        have hg2 := HG.out
        rw [hdr, goesP_cons] at hg2
        clear hdr
        generalize ls[k] = x at c0 c1 hg2
        obtain ⟨i, q⟩ := x
        simp only at c0 c1 hg2
        have hft := hold_fit cur i q hc20 HFC.out
        have S := Lib.hid (fun W (hb : Below wr.heap.size wr W) => G.out ca cc cur i q W (HRC.out.below hb) (by unfold maxLen; omega) HFC.out)
        generalize withP (holdG q) cur i q = r at S hg2 hft
        obtain ⟨rl, re⟩ := r
        simp only at hg2 hft
        have HFT := Lib.hid hft
        clear hft
        by_cases hre : re = 0
        · subst hre
          rw [if_neg (by simp)] at hg2
          have HG2 := Lib.hid hg2
          clear hg2
          go_wp2_with fail
          go_region_with (go_at_call 26; refine (S.out _ ?_).mono ?_; exact ⟨rfl, rfl, rfl, Nat.le_refl _, fun _ _ => rfl⟩; rintro e w3 ⟨v, rfl, ⟨va, vc, rfl, h1, h2, h3⟩, hab, hb4⟩)
          all_goals
            have HK := Lib.hid (And.intro h3 (bt hbel (undrew hb4)))
            clear h3 hab hb4
            go_wp2_with fail
            refine ⟨⟨k + 1, rl, va, vc, by omega, by go_num, rfl, ?_, HK.out.1, h1, h2, HFT.out.1, HFT.out.2, HK.out.2⟩, by simp [intOf]; omega⟩
            rw [HG2.out]; congr 1
        · rw [if_pos hre] at hg2
          have hreb : (re != 0) = true := by simpa using hre
          have HG2 := Lib.hid hg2
          clear hg2
          go_wp2_with fail
          go_region_with (go_at_call 26; refine (S.out _ ?_).mono ?_; exact ⟨rfl, rfl, rfl, Nat.le_refl _, fun _ _ => rfl⟩; rintro e w3 ⟨v, rfl, ⟨va, vc, rfl, h1, h2, h3⟩, hab, hb4⟩)
          all_goals
            have HK := Lib.hid (bt hbel (undrew hb4))
            clear h1 h2 h3 hab hb4
            go_wp2_with fail
            rw [HG2.out]
            go_ret3
            exact ⟨_, rfl, IsSl.nil _ _ _, HK.out⟩
      · obtain rfl : k = ls.length := by omega
        have hg2 := HG.out
        rw [List.drop_length, goesP_nil] at hg2
        have HG2 := Lib.hid hg2
        clear hg2
        go_wp2_with fail
        rw [HG2.out]
        go_ret3
        exact ⟨_, rfl, ⟨ca, cc, rfl, hc1, hc2, HRC.out⟩, hbel⟩
  · have hlp : allP (fun ys i q => withP (holdG q) ys i q) xs ls = ([], 0, 2) := by unfold allP; rw [if_neg ho]
    rw [hlp]
    by_cases h1 : ok xs = true
    · have he : okE xs = 0 := by unfold okE; rw [if_pos h1]
      have he2 : okLE ls = 2 := by unfold okLE; rw [if_neg (fun h => ho ⟨h1, h⟩)]
      rw [he] at C
      rw [he2] at D
      clear hlp ho hf hl he he2 h1 hcap hl2
      go_enter Try.func8, Try.ntmps8
      go_wp2_with fail
      refine (C.out _ HR.out).mono ?_
      rintro e w1 ⟨rfl, hb⟩
      go_wp2_with fail
      refine (D.out _ (HR2.out.below hb)).mono ?_
      rintro e w2 ⟨rfl, hb2⟩
      replace hb := bt hb hb2; clear hb2
      go_wp2_with fail
      go_ret3
      exact ⟨_, rfl, IsSl.nil _ _ _, hb⟩
    · have he : okE xs = 2 := by unfold okE; rw [if_neg h1]
      rw [he] at C
      clear hlp ho hf hl he h1 hcap hl2
      go_enter Try.func8, Try.ntmps8
      go_wp2_with fail
      refine (C.out _ HR.out).mono ?_
      rintro e w1 ⟨rfl, hb⟩
      go_wp2_with fail
      go_ret3
      exact ⟨_, rfl, IsSl.nil _ _ _, hb⟩
set_option maxHeartbeats 8000000 in
theorem goesBR2_any (a : Option Addr) (cap : Nat) (xs : List It) (b : Option Addr) (capb : Nat) (ls : List Ln) (w : World) (hr : Reads encT 4 w a xs) (hcap : xs.length ≤ cap ∧ cap ≤ maxLen) (hf : ∀ x, x ∈ xs → fitT x)
    (hr2 : Reads encL 2 w b ls) (hl2 : ls.length ≤ maxLen) :
    Calls Try.prog 8 #[.slice a xs.length cap, .slice b ls.length capb, .int .i64 2] w (GotA (allP (fun ys i q => withP (freeG q) ys i q) xs ls) w) := by
  have hl : xs.length ≤ maxLen := Nat.le_trans hcap.1 hcap.2
  have C := Lib.hid (fun W h => checkR_any a cap xs W h hl hf)
  have D := Lib.hid (fun W h => checkLR_any b capb ls W h hl2)
  have HR := Lib.hid hr
  have HR2 := Lib.hid hr2
  clear hr hr2
  by_cases ho : ok xs = true ∧ okL ls = true
  · have hlp : allP (fun ys i q => withP (freeG q) ys i q) xs ls = goesP (fun ys i q => withP (freeG q) ys i q) 0 xs ls := by unfold allP; rw [if_pos ho]
    rw [hlp]
    have he : okE xs = 0 := by unfold okE; rw [if_pos ho.1]
    have he2 : okLE ls = 0 := by unfold okLE; rw [if_pos ho.2]
    rw [he] at C
    rw [he2] at D
    have h5 : ls.length ≤ 5 := by have h2 := ho.2; unfold okL at h2; simp at h2; omega
    have h20 : xs.length ≤ 20 := ok_len ho.1
    have HF := Lib.hid hf
    have G := Lib.hid (fun ca cc ys i q W (h : Reads encT 4 W ca ys) (hy : ys.length ≤ maxLen) (hfy : ∀ x, x ∈ ys → fitT x) => goesR2_any ca cc ys i q W h hy hfy)
    clear hlp ho hf hl he he2
    go_enter Try.func8, Try.ntmps8
    go_wp2_with fail
    refine (C.out _ HR.out).mono ?_
    rintro e w1 ⟨rfl, hb⟩
    go_wp2_with fail
    refine (D.out _ (HR2.out.below hb)).mono ?_
    rintro e w2 ⟨rfl, hb2⟩
    replace hb := bt hb hb2; clear hb2
    have HB0 := Lib.hid hb
    clear hb
    go_wp2_with fail
    go_loopw [0, 9, 10, 11] (fun v0 v9 v10 v11 wr => ∃ (k : Nat) (cur : List It) (ca : Option Addr) (cc : Nat), k ≤ ls.length ∧ v9 = .int .i64 k ∧ v0 = .slice ca cur.length cc ∧ goesP (fun ys i q => withP (freeG q) ys i q) 0 xs ls = goesP (fun ys i q => withP (freeG q) ys i q) k cur (ls.drop k) ∧
      Reads encT 4 wr ca cur ∧ cur.length ≤ cc ∧ cc ≤ maxLen ∧ cur.length ≤ 20 ∧ (∀ x, x ∈ cur → fitT x) ∧ Below w.heap.size w wr) (fun _ v9 _ _ _ => ls.length - (intOf v9).toNat)
    case atStart => exact ⟨0, xs, a, cap, by omega, rfl, rfl, rfl, HR.out.below HB0.out, hcap.1, hcap.2, h20, HF.out, HB0.out⟩
    case round =>
      obtain ⟨k, cur, ca, cc, hk, rfl, rfl, hg, hrc, hc1, hc2, hc20, hfc, hbel⟩ := hrel
      have HG := Lib.hid hg
      have HRC := Lib.hid hrc
      have HFC := Lib.hid hfc
      clear hg hrc hfc HB0
      by_cases hlt : k < ls.length
      · obtain ⟨bb, off, rfl, hbl, c0, c1⟩ := (HR2.out.below hbel).line k hlt
        have hdr : ls.drop k = ls[k] :: ls.drop (k + 1) := List.drop_eq_getElem_cons hlt
        have hg2 := HG.out
        rw [hdr, goesP_cons] at hg2
        clear hdr
        generalize ls[k] = x at c0 c1 hg2
        obtain ⟨i, q⟩ := x
        simp only at c0 c1 hg2
        have hft := free_fit cur i q hc20 HFC.out
        have S := Lib.hid (fun W (hb : Below wr.heap.size wr W) => G.out ca cc cur i q W (HRC.out.below hb) (by unfold maxLen; omega) HFC.out)
        generalize withP (freeG q) cur i q = r at S hg2 hft
        obtain ⟨rl, re⟩ := r
        simp only at hg2 hft
        have HFT := Lib.hid hft
        clear hft
        by_cases hre : re = 0
        · subst hre
          rw [if_neg (by simp)] at hg2
          have HG2 := Lib.hid hg2
          clear hg2
          go_wp2_with fail
          go_region_with (go_at_call 26; refine (S.out _ ?_).mono ?_; exact ⟨rfl, rfl, rfl, Nat.le_refl _, fun _ _ => rfl⟩; rintro e w3 ⟨v, rfl, ⟨va, vc, rfl, h1, h2, h3⟩, hab, hb4⟩)
          all_goals
            have HK := Lib.hid (And.intro h3 (bt hbel (undrew hb4)))
            clear h3 hab hb4
            go_wp2_with fail
            refine ⟨⟨k + 1, rl, va, vc, by omega, by go_num, rfl, ?_, HK.out.1, h1, h2, HFT.out.1, HFT.out.2, HK.out.2⟩, by simp [intOf]; omega⟩
            rw [HG2.out]; congr 1
        · rw [if_pos hre] at hg2
          have hreb : (re != 0) = true := by simpa using hre
          have HG2 := Lib.hid hg2
          clear hg2
          go_wp2_with fail
          go_region_with (go_at_call 26; refine (S.out _ ?_).mono ?_; exact ⟨rfl, rfl, rfl, Nat.le_refl _, fun _ _ => rfl⟩; rintro e w3 ⟨v, rfl, ⟨va, vc, rfl, h1, h2, h3⟩, hab, hb4⟩)
          all_goals
            have HK := Lib.hid (bt hbel (undrew hb4))
            clear h1 h2 h3 hab hb4
            go_wp2_with fail
            rw [HG2.out]
            go_ret3
            exact ⟨_, rfl, IsSl.nil _ _ _, HK.out⟩
      · obtain rfl : k = ls.length := by omega
        have hg2 := HG.out
        rw [List.drop_length, goesP_nil] at hg2
        have HG2 := Lib.hid hg2
        clear hg2
        go_wp2_with fail
        rw [HG2.out]
        go_ret3
        exact ⟨_, rfl, ⟨ca, cc, rfl, hc1, hc2, HRC.out⟩, hbel⟩
  · have hlp : allP (fun ys i q => withP (freeG q) ys i q) xs ls = ([], 0, 2) := by unfold allP; rw [if_neg ho]
    rw [hlp]
    by_cases h1 : ok xs = true
    · have he : okE xs = 0 := by unfold okE; rw [if_pos h1]
      have he2 : okLE ls = 2 := by unfold okLE; rw [if_neg (fun h => ho ⟨h1, h⟩)]
      rw [he] at C
      rw [he2] at D
      clear hlp ho hf hl he he2 h1 hcap hl2
      go_enter Try.func8, Try.ntmps8
      go_wp2_with fail
      refine (C.out _ HR.out).mono ?_
      rintro e w1 ⟨rfl, hb⟩
      go_wp2_with fail
      refine (D.out _ (HR2.out.below hb)).mono ?_
      rintro e w2 ⟨rfl, hb2⟩
      replace hb := bt hb hb2; clear hb2
      go_wp2_with fail
      go_ret3
      exact ⟨_, rfl, IsSl.nil _ _ _, hb⟩
    · have he : okE xs = 2 := by unfold okE; rw [if_neg h1]
      rw [he] at C
      clear hlp ho hf hl he h1 hcap hl2
      go_enter Try.func8, Try.ntmps8
      go_wp2_with fail
      refine (C.out _ HR.out).mono ?_
      rintro e w1 ⟨rfl, hb⟩
      go_wp2_with fail
      go_ret3
      exact ⟨_, rfl, IsSl.nil _ _ _, hb⟩
set_option maxHeartbeats 2000000 in
theorem holdB_any (a : Option Addr) (cap : Nat) (xs : List It) (b : Option Addr) (capb : Nat) (ls : List Ln) (w : World) (hr : Reads encT 4 w a xs) (hcap : xs.length ≤ cap ∧ cap ≤ maxLen) (hf : ∀ x, x ∈ xs → fitT x)
    (hr2 : Reads encL 2 w b ls) (hl2 : ls.length ≤ maxLen) (hf2 : ∀ x, x ∈ ls → fitL x) :
    Calls Try.prog 7 #[.slice a xs.length cap, .slice b ls.length capb] w (GotA (allP (fun ys i q => withP (holdG q) ys i q) xs ls) w) := by
  have A := Lib.hid (all_any 21 (fun ys i q => withP (holdG q) ys i q) a cap xs b capb ls w hr (Nat.le_trans hcap.1 hcap.2) hcap hf hr2 hl2 hf2 (fun _ _ => by rfl) (fun a cap ys i q W h hy hfy => reserve_any a cap ys i q W h hy hfy) hold_fit)
  clear hr hcap hf hr2 hl2 hf2
  go_enter Try.func7, Try.ntmps7
  go_wp2_with fail
  refine A.out.mono ?_
  rintro e w1 ⟨v, rfl, hsl, hb⟩
  have HS := Lib.hid (And.intro hsl hb)
  clear hsl hb
  go_wp2_with fail
  go_ret3
  exact ⟨_, rfl, HS.out.1, HS.out.2⟩
set_option maxHeartbeats 2000000 in
theorem freeB_any (a : Option Addr) (cap : Nat) (xs : List It) (b : Option Addr) (capb : Nat) (ls : List Ln) (w : World) (hr : Reads encT 4 w a xs) (hcap : xs.length ≤ cap ∧ cap ≤ maxLen) (hf : ∀ x, x ∈ xs → fitT x)
    (hr2 : Reads encL 2 w b ls) (hl2 : ls.length ≤ maxLen) (hf2 : ∀ x, x ∈ ls → fitL x) :
    Calls Try.prog 9 #[.slice a xs.length cap, .slice b ls.length capb] w (GotA (allP (fun ys i q => withP (freeG q) ys i q) xs ls) w) := by
  have A := Lib.hid (all_any 27 (fun ys i q => withP (freeG q) ys i q) a cap xs b capb ls w hr (Nat.le_trans hcap.1 hcap.2) hcap hf hr2 hl2 hf2 (fun _ _ => by rfl) (fun a cap ys i q W h hy hfy => release_any a cap ys i q W h hy hfy) free_fit)
  clear hr hcap hf hr2 hl2 hf2
  go_enter Try.func9, Try.ntmps9
  go_wp2_with fail
  refine A.out.mono ?_
  rintro e w1 ⟨v, rfl, hsl, hb⟩
  have HS := Lib.hid (And.intro hsl hb)
  clear hsl hb
  go_wp2_with fail
  go_ret3
  exact ⟨_, rfl, HS.out.1, HS.out.2⟩
set_option maxHeartbeats 2000000 in
theorem fitsR_any (a : Option Addr) (cap : Nat) (xs : List It) (b : Option Addr) (capb : Nat) (ls : List Ln) (w : World) (hr : Reads encT 4 w a xs) (hcap : xs.length ≤ cap ∧ cap ≤ maxLen) (hf : ∀ x, x ∈ xs → fitT x)
    (hr2 : Reads encL 2 w b ls) (hl2 : ls.length ≤ maxLen) :
    Calls Try.prog 14 #[.slice a xs.length cap, .slice b ls.length capb] w fun e w' => e = .returned (.bool ((allP (fun ys i q => withP (holdG q) ys i q) xs ls).2.2 == 0)) ∧ Below w.heap.size w w' := by
  have A := Lib.hid (goesBR1_any a cap xs b capb ls w hr hcap hf hr2 hl2)
  clear hr hcap hf hr2 hl2
  generalize allP (fun ys i q => withP (holdG q) ys i q) xs ls = r at *
  go_enter Try.func14, Try.ntmps14
  go_wp2_with fail
  refine A.out.mono ?_
  rintro e w1 ⟨v, rfl, hsl, hb⟩
  have HS := Lib.hid (And.intro hsl hb)
  clear hsl hb
  go_wp2_with fail
  go_ret
  exact ⟨rfl, HS.out.2⟩
end Go.Proofs.Ytfnmaemeofkagaa
