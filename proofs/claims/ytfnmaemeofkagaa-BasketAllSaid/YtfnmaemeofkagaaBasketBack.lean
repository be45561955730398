/- The basket: the walk of BasketBack. -/
import Derived.Test.YtfnmaemeofkagaaBasketTells
namespace Go.Proofs.Ytfnmaemeofkagaa
open Go.ChangeShapes Go.WideShapes Go.ChangeAt Go.RowKit
open StockP
set_option maxRecDepth 100000
theorem ok_fit {l : List It} (h : ok l = true) : ∀ x, x ∈ l → fitT x := fun x hx => by
  have := may_bd (ok_may h x hx)
  unfold fitT; omega
theorem held_ok {xs : List It} {ls : List Ln} (h : (allP (fun ys i q => withP (holdG q) ys i q) xs ls).2.2 = 0) : ok (allP (fun ys i q => withP (holdG q) ys i q) xs ls).1 = true := by
  have hf : fitsP xs ls = true := by rw [← all_err]; show ((allP (fun ys i q => withP (holdG q) ys i q) xs ls).2.2 == 0) = true; rw [h]; rfl
  obtain ⟨h1, h2, hc⟩ := (fits_can xs ls).1 hf
  have hh := (hold_all ls 0 0 xs h1 (okL_from h2)).1 hc
  have e1 : allP (fun ys i q => withP (holdG q) ys i q) xs ls = (xs.map (fun y => mv (sumOf ls y.id) y), 0 + (ls.length : Int), 0) := by unfold allP; rw [if_pos ⟨h1, h2⟩]; exact hh
  rw [e1]
  exact ok_held h1 h2 hc
set_option maxHeartbeats 8000000 in
theorem basketBack_law (w : World) (a : Option Addr) (cap : Nat) (xs : List It) (hr : Reads encT 4 w a xs) (hf : ∀ x, x ∈ xs → fitT x) (hcap : xs.length ≤ cap ∧ cap ≤ maxLen) (b : Option Addr) (capb : Nat) (ls : List Ln) (hr2 : Reads encL 2 w b ls) (hf2 : ∀ x, x ∈ ls → fitL x) (hcap2 : ls.length ≤ capb ∧ capb ≤ maxLen) :
    Calls Try.prog 5 #[.slice a xs.length cap, .slice b ls.length capb] w fun e w' => e = .returned (.bool true) ∧ Below w.heap.size w w' := by
  have hl : xs.length ≤ maxLen := Nat.le_trans hcap.1 hcap.2
  have hl2 : ls.length ≤ maxLen := Nat.le_trans hcap2.1 hcap2.2
  have hlb := hl
  have hlb2 := hl2
  unfold maxLen at hlb hlb2
  by_cases h3 : 60 < xs.length
  · go_enter Try.func5, Try.ntmps5
    go_wp2_with fail
    refine (awake_any _).mono ?_
    rintro e w1 ⟨rfl, hb⟩
    go_wp2_with fail
    go_ret
    exact ⟨rfl, hb⟩
  · by_cases h4 : 60 < ls.length
    · have hd : decide ((60 : Int) < (xs.length : Int)) = false := by simp; omega
      go_enter Try.func5, Try.ntmps5
      go_wp2_with fail
      refine (awake_any _).mono ?_
      rintro e w1 ⟨rfl, hb⟩
      go_wp2_with fail
      go_ret
      exact ⟨rfl, hb⟩
    · have hd : decide ((60 : Int) < (xs.length : Int)) = false := by simp; omega
      have hd2 : decide ((60 : Int) < (ls.length : Int)) = false := by simp; omega
      have HH := Lib.hid (holdB_any a cap xs b capb ls w hr hcap hf hr2 hl2 hf2)
      have HR := Lib.hid hr
      have HR2 := Lib.hid hr2
      by_cases hA : (allP (fun ys i q => withP (holdG q) ys i q) xs ls).2.2 = 0
      · have hbk : allP (fun ys i q => withP (freeG q) ys i q) (allP (fun ys i q => withP (holdG q) ys i q) xs ls).1 ls = (xs, (ls.length : Int), 0) := back_same hA
        have FB := Lib.hid (fun a c W h hc h2 => freeB_any a c (allP (fun ys i q => withP (holdG q) ys i q) xs ls).1 b capb ls W h hc (ok_fit (held_ok hA)) h2 hl2 hf2)
        rw [hbk] at FB
        generalize allP (fun ys i q => withP (holdG q) ys i q) xs ls = A at *
        obtain ⟨A1, A2, A3⟩ := A
        simp only at hA HH FB
        subst hA
        clear hr hr2 hf hf2 h3 h4 hcap hcap2 hl2 hbk
        go_enter Try.func5, Try.ntmps5
        go_wp2_with fail
        refine HH.out.mono ?_
        rintro e w1 ⟨v1, rfl, ⟨a1, c1, rfl, hc1, hm1, hr1⟩, hb⟩
        go_wp2_with fail
        refine (FB.out _ _ _ hr1 ⟨hc1, hm1⟩ (HR2.out.below hb)).mono ?_
        rintro e w2 ⟨v2, rfl, ⟨a2, c2, rfl, hc2, hm2, hr2⟩, hb2⟩
        replace hb := bt hb hb2
        have HRB := Lib.hid hr2
        clear hb2 hr1 hc1 hm1 hc2 hm2 hr2
        go_wp2_with fail
        refine (sameT_any _ _ _ _ xs xs _ HRB.out (HR.out.below hb) hl).mono ?_
        rw [sameT_rfl]
        rintro e w3 ⟨rfl, hb2⟩
        replace hb := bt hb hb2; clear hb2
        go_wp2_with fail
        refine (awake_any _).mono ?_
        rintro e w4 ⟨rfl, hb2⟩
        replace hb := bt hb hb2; clear hb2
        go_wp2_with fail
        go_ret
        exact ⟨rfl, hb⟩
      · have LA := Lib.hid (fun W h h2 => lacks_any a cap xs b capb ls W h hl hf h2 hl2 hf2)
        have hfin : ∀ cur, rsP xs (lacksP xs ls) = some cur → okE cur = 2 ∨ (okE cur = 0 ∧ okLE ls = 2) ∨ (okE cur = 0 ∧ okLE ls = 0 ∧ fitsP cur ls = true) := by
          intro cur hcur
          unfold lacksP at hcur
          by_cases ho : ok xs = true ∧ okL ls = true
          · rw [if_pos ho] at hcur
            have h1 := added_fits ho.1 ho.2 hcur
            have h2 := (fits_can cur ls).1 h1
            refine .inr (.inr ⟨by unfold okE; rw [if_pos h2.1], by unfold okLE; rw [if_pos ho.2], h1⟩)
          · rw [if_neg ho] at hcur
            cases hcur
            by_cases h1 : ok xs = true
            · exact .inr (.inl ⟨by unfold okE; rw [if_pos h1], by unfold okLE; rw [if_neg fun h => ho ⟨h1, h⟩]⟩)
            · exact .inl (by unfold okE; rw [if_neg h1])
        have HFIN := Lib.hid hfin
        have hAb : ((allP (fun ys i q => withP (holdG q) ys i q) xs ls).2.2 == 0) = false := by simpa using hA
        generalize allP (fun ys i q => withP (holdG q) ys i q) xs ls = A at *
        obtain ⟨A1, A2, A3⟩ := A
        simp only at hA HH hAb
        have HF := Lib.hid hf
        have HF2 := Lib.hid hf2
        generalize lacksP xs ls = K at *
        clear hr hr2 hf hf2 h3 h4 hcap2 hfin hA
        go_enter Try.func5, Try.ntmps5
        go_wp2_with fail
        refine HH.out.mono ?_
        rintro e w1 ⟨v1, rfl, _, hb⟩
        go_wp2_with fail
        refine (LA.out _ (HR.out.below hb) (HR2.out.below hb)).mono ?_
        rintro e w2 ⟨v2, rfl, ⟨aK, cK, rfl, hcK, hmK, hrK⟩, hb2⟩
        replace hb := bt hb hb2
        have HB0 := Lib.hid hb
        have HRK := Lib.hid hrK
        have hKb : K.length ≤ 9223372036854775807 := by have := Nat.le_trans hcK hmK; unfold maxLen at this; exact this
        clear hb hb2 hrK hcK hmK
        go_wp2_with fail
        go_loopw [0, 12, 13, 14] (fun v0 v12 v13 v14 wr => ∃ (k : Nat) (cur : List It) (ca : Option Addr) (cc : Nat), k ≤ K.length ∧ v12 = .int .i64 k ∧ v0 = .slice ca cur.length cc ∧ rsP xs (K.take k) = some cur ∧
          Reads encT 4 wr ca cur ∧ cur.length ≤ cc ∧ cc ≤ maxLen ∧ (∀ x, x ∈ cur → fitT x) ∧ Below w2.heap.size w2 wr) (fun _ v12 _ _ _ => K.length - (intOf v12).toNat)
        case atStart => exact ⟨0, xs, a, cap, by omega, rfl, rfl, rfl, HR.out.below HB0.out, hcap.1, hcap.2, HF.out, Below.refl _ _⟩
        case round =>
          obtain ⟨k, cur, ca, cc, hk, rfl, rfl, hrs, hrc, hc1, hc2, hfc, hbel⟩ := hrel
          have HRS := Lib.hid hrs
          have HRC := Lib.hid hrc
          have HFC := Lib.hid hfc
          have hcl : cur.length ≤ maxLen := Nat.le_trans hc1 hc2
          clear hrs hrc hfc
          by_cases hlt : k < K.length
          · obtain ⟨bb, off, rfl, hbl, c0, c1⟩ := (HRK.out.below hbel).line k hlt
            have htk : K.take (k + 1) = K.take k ++ [K[k]] := by simp
            have hsn := rsP_snoc (K.take k) K[k] xs cur HRS.out
            rw [← htk] at hsn
            have HSN := Lib.hid hsn
            clear htk hsn
            generalize K[k] = x at c0 c1 HSN
            obtain ⟨i, q⟩ := x
            simp only at c0 c1 HSN
            have S := Lib.hid (fun W (hb : Below wr.heap.size wr W) => restock_any ca cc cur i q W (HRC.out.below hb) hcl HFC.out)
            have HI := Lib.hid (fun h => in_one (ys := cur) (i := i) (q := q) h)
            simp only [inF] at HSN HI
            generalize withP (inG q) cur i q = r at S HSN HI
            obtain ⟨rl, re⟩ := r
            simp only at HSN HI
            by_cases hre : re = 0
            · subst hre
              have hsn := HSN.out
              rw [if_pos rfl] at hsn
              have HSN2 := Lib.hid hsn
              have HOK := Lib.hid (ok_fit (HI.out rfl).2.1)
              clear hsn HSN HI
              go_wp2_with fail
              go_region_with (go_at_call 22; refine (S.out _ ?_).mono ?_; exact ⟨rfl, rfl, rfl, Nat.le_refl _, fun _ _ => rfl⟩; rintro e w3 ⟨v, rfl, ⟨va, vc, rfl, h1, h2, h3⟩, hab, hb4⟩)
              all_goals
                have HK := Lib.hid (And.intro h3 (bt hbel (undrew hb4)))
                clear h3 hab hb4
                go_wp2_with fail
                exact ⟨⟨k + 1, rl, va, vc, by omega, by go_num, rfl, HSN2.out, HK.out.1, h1, h2, HOK.out, HK.out.2⟩, by simp [intOf]; omega⟩
            · have hreb : (re != 0) = true := by simpa using hre
              clear HSN HI
              go_wp2_with fail
              go_region_with (go_at_call 22; refine (S.out _ ?_).mono ?_; exact ⟨rfl, rfl, rfl, Nat.le_refl _, fun _ _ => rfl⟩; rintro e w3 ⟨v, rfl, ⟨va, vc, rfl, h1, h2, h3⟩, hab, hb4⟩)
              all_goals
                have hb5 := bt HB0.out (bt hbel (undrew hb4))
                clear h1 h2 h3 hab hb4
                go_wp2_with fail
                refine (awake_any _).mono ?_
                rintro e w5 ⟨rfl, hb2⟩
                replace hb5 := bt hb5 hb2; clear hb2
                go_wp2_with fail
                go_ret
                exact ⟨rfl, hb5⟩
          · obtain rfl : k = K.length := by omega
            have hrs := HRS.out
            rw [List.take_length] at hrs
            have hcase := HFIN.out _ hrs
            have hb := bt HB0.out hbel
            have CC := Lib.hid (fun W h => check_any ca cc cur W h hcl HFC.out)
            have CL := Lib.hid (fun W h => checkL_any b capb ls W h hl2 HF2.out)
            have FI := Lib.hid (fun W h h2 => fits_any ca cc cur b capb ls W h hcl HFC.out h2 hl2 HF2.out)
            replace HRC := Lib.hid (HRC.out)
            clear hrs hc1 hc2 hcl
            generalize okE cur = o1 at CC hcase
            generalize okLE ls = o2 at CL hcase
            generalize fitsP cur ls = o3 at FI hcase
            rcases hcase with rfl | ⟨rfl, rfl⟩ | ⟨rfl, rfl, rfl⟩
            · go_wp2_with fail
              refine (CC.out _ HRC.out).mono ?_
              rintro e w3 ⟨rfl, hb2⟩
              replace hb := bt hb hb2; clear hb2
              go_wp2_with fail
              refine (awake_any _).mono ?_
              rintro e w5 ⟨rfl, hb2⟩
              replace hb := bt hb hb2; clear hb2
              go_wp2_with fail
              go_ret
              exact ⟨rfl, hb⟩
            · go_wp2_with fail
              refine (CC.out _ HRC.out).mono ?_
              rintro e w3 ⟨rfl, hb2⟩
              replace hb := bt hb hb2; clear hb2
              go_wp2_with fail
              refine (CL.out _ (HR2.out.below hb)).mono ?_
              rintro e w4 ⟨rfl, hb2⟩
              replace hb := bt hb hb2; clear hb2
              go_wp2_with fail
              refine (awake_any _).mono ?_
              rintro e w5 ⟨rfl, hb2⟩
              replace hb := bt hb hb2; clear hb2
              go_wp2_with fail
              go_ret
              exact ⟨rfl, hb⟩
            · go_wp2_with fail
              refine (CC.out _ HRC.out).mono ?_
              rintro e w3 ⟨rfl, hb2⟩
              replace HRC := Lib.hid (HRC.out.below hb2)
              replace hb := bt hb hb2; clear hb2
              go_wp2_with fail
              refine (CL.out _ (HR2.out.below hb)).mono ?_
              rintro e w4 ⟨rfl, hb2⟩
              replace HRC := Lib.hid (HRC.out.below hb2)
              replace hb := bt hb hb2; clear hb2
              go_wp2_with fail
              refine (FI.out _ HRC.out (HR2.out.below hb)).mono ?_
              rintro e w6 ⟨rfl, hb2⟩
              replace hb := bt hb hb2; clear hb2
              go_wp2_with fail
              refine (awake_any _).mono ?_
              rintro e w5 ⟨rfl, hb2⟩
              replace hb := bt hb hb2; clear hb2
              go_wp2_with fail
              go_ret
              exact ⟨rfl, hb⟩
end Go.Proofs.Ytfnmaemeofkagaa
