/- The basket: the walk of BasketTells. -/
import Derived.Test.YtfnmaemeofkagaaBasketLaws
import Derived.Test.YtfnmaemeofkagaaOpenBasket
namespace Go.Proofs.Ytfnmaemeofkagaa
open Go.ChangeShapes Go.WideShapes Go.ChangeAt Go.RowKit
open StockP
set_option maxRecDepth 100000
theorem all_errL (xs : List It) (ls : List Ln) : ((allP (fun ys i q => withP (holdG q) ys i q) xs ls).2.2 == 0) = fitsP xs ls := all_err xs ls
theorem sameT_rfl (xs : List It) : sameT xs xs = true := decide_eq_true rfl
theorem sameLn_rfl (xs : List Ln) : sameLn xs xs = true := decide_eq_true rfl
set_option maxHeartbeats 8000000 in
theorem basketTells_law (w : World) (a : Option Addr) (cap : Nat) (xs : List It) (hr : Reads encT 4 w a xs) (hf : ∀ x, x ∈ xs → fitT x) (hcap : xs.length ≤ cap ∧ cap ≤ maxLen) (b : Option Addr) (capb : Nat) (ls : List Ln) (hr2 : Reads encL 2 w b ls) (hf2 : ∀ x, x ∈ ls → fitL x) (hcap2 : ls.length ≤ capb ∧ capb ≤ maxLen) :
    Calls Try.prog 3 #[.slice a xs.length cap, .slice b ls.length capb] w fun e w' => e = .returned (.bool true) ∧ Below w.heap.size w w' := by
  have hl : xs.length ≤ maxLen := Nat.le_trans hcap.1 hcap.2
  have hl2 : ls.length ≤ maxLen := Nat.le_trans hcap2.1 hcap2.2
  have hlb := hl
  have hlb2 := hl2
  unfold maxLen at hlb hlb2
  by_cases h3 : 60 < xs.length
  · go_enter Try.func3, Try.ntmps3
    go_wp2_with fail
    refine (awake_any _).mono ?_
    rintro e w1 ⟨rfl, hb⟩
    go_wp2_with fail
    go_ret
    exact ⟨rfl, hb⟩
  · by_cases h4 : 60 < ls.length
    · have hd : decide ((60 : Int) < (xs.length : Int)) = false := by simp; omega
      go_enter Try.func3, Try.ntmps3
      go_wp2_with fail
      refine (awake_any _).mono ?_
      rintro e w1 ⟨rfl, hb⟩
      go_wp2_with fail
      go_ret
      exact ⟨rfl, hb⟩
    · have hd : decide ((60 : Int) < (xs.length : Int)) = false := by simp; omega
      have hd2 : decide ((60 : Int) < (ls.length : Int)) = false := by simp; omega
      have HH := Lib.hid (fun W h h2 => holdB_any a cap xs b capb ls W h hcap hf h2 hl2 hf2)
      have HF := Lib.hid (fun W h h2 => freeB_any a cap xs b capb ls W h hcap hf h2 hl2 hf2)
      have RH := Lib.hid (fun W h h2 => goesBR1_any a cap xs b capb ls W h hcap hf h2 hl2)
      have RF := Lib.hid (fun W h h2 => goesBR2_any a cap xs b capb ls W h hcap hf h2 hl2)
      have CL := Lib.hid (fun W h => checkL_any b capb ls W h hl2 hf2)
      have CR := Lib.hid (fun W h => checkLR_any b capb ls W h hl2)
      have FI := Lib.hid (fun W h h2 => fits_any a cap xs b capb ls W h hl hf h2 hl2 hf2)
      have FR := Lib.hid (fun W h h2 => (fitsR_any a cap xs b capb ls W h hcap hf h2 hl2))
      have LA := Lib.hid (fun W h h2 => lacks_any a cap xs b capb ls W h hl hf h2 hl2 hf2)
      have LR := Lib.hid (fun W h h2 => lacksR_any a cap xs b capb ls W h hl hf h2 hl2)
      have TT := Lib.hid (fun W h => totalB_any b capb ls W h hl2 hf2)
      have TR := Lib.hid (fun W h => totalR_any b capb ls W h hl2)
      rw [all_errL] at FR
      have HR := Lib.hid hr
      have HR2 := Lib.hid hr2
      have hb : Below w.heap.size w w := Below.refl _ _
      generalize allP (fun ys i q => withP (holdG q) ys i q) xs ls = A at *
      generalize allP (fun ys i q => withP (freeG q) ys i q) xs ls = B at *
      generalize fitsP xs ls = F at *
      generalize lacksP xs ls = K at *
      generalize totalP ls = T at *
      generalize okLE ls = O at *
      clear hr hr2 hf hf2 h3 h4 hcap hcap2 hl hl2
      go_enter Try.func3, Try.ntmps3
      go_wp2_with fail
      refine (HH.out _ HR.out HR2.out).mono ?_
      rintro e w1 ⟨v1, rfl, ⟨a1, c1, rfl, hc1, hm1, hr1⟩, hb2⟩
      replace HR := Lib.hid (HR.out.below hb2)
      replace HR2 := Lib.hid (HR2.out.below hb2)
      replace hb := bt hb hb2
      have HA := Lib.hid hr1
      clear hr1
      clear hb2
      go_wp2_with fail
      have MA := Lib.hid (Nat.le_trans hc1 hm1)
      clear hc1 hm1
      refine (RH.out _ HR.out HR2.out).mono ?_
      rintro e w2 ⟨v2, rfl, ⟨a2, c2, rfl, hc2, hm2, hr2⟩, hb2⟩
      replace HR := Lib.hid (HR.out.below hb2)
      replace HR2 := Lib.hid (HR2.out.below hb2)
      replace HA := Lib.hid (HA.out.below hb2)
      replace hb := bt hb hb2
      have HA2 := Lib.hid hr2
      clear hr2
      clear hb2
      go_wp2_with fail
      refine (HF.out _ HR.out HR2.out).mono ?_
      rintro e w3 ⟨v3, rfl, ⟨a3, c3, rfl, hc3, hm3, hr3⟩, hb2⟩
      replace HR := Lib.hid (HR.out.below hb2)
      replace HR2 := Lib.hid (HR2.out.below hb2)
      replace HA := Lib.hid (HA.out.below hb2)
      replace HA2 := Lib.hid (HA2.out.below hb2)
      replace hb := bt hb hb2
      have HB := Lib.hid hr3
      clear hr3
      clear hb2
      go_wp2_with fail
      have MB := Lib.hid (Nat.le_trans hc3 hm3)
      clear hc3 hm3 hc2 hm2
      refine (RF.out _ HR.out HR2.out).mono ?_
      rintro e w4 ⟨v4, rfl, ⟨a4, c4, rfl, hc4, hm4, hr4⟩, hb2⟩
      replace HR := Lib.hid (HR.out.below hb2)
      replace HR2 := Lib.hid (HR2.out.below hb2)
      replace HA := Lib.hid (HA.out.below hb2)
      replace HA2 := Lib.hid (HA2.out.below hb2)
      replace HB := Lib.hid (HB.out.below hb2)
      replace hb := bt hb hb2
      have HB2 := Lib.hid hr4
      clear hr4
      clear hb2
      go_wp2_with fail
      clear hc4 hm4
      refine (sameT_any _ _ _ _ A.1 A.1 _ HA.out HA2.out MA.out).mono ?_
      rw [sameT_rfl]
      rintro e w5 ⟨rfl, hb2⟩
      clear HA
      clear HA2
      replace HR := Lib.hid (HR.out.below hb2)
      replace HR2 := Lib.hid (HR2.out.below hb2)
      replace HB := Lib.hid (HB.out.below hb2)
      replace HB2 := Lib.hid (HB2.out.below hb2)
      replace hb := bt hb hb2
      clear hb2
      go_wp2_with fail
      refine (sameT_any _ _ _ _ B.1 B.1 _ HB.out HB2.out MB.out).mono ?_
      rw [sameT_rfl]
      rintro e w6 ⟨rfl, hb2⟩
      clear HB
      clear HB2
      replace HR := Lib.hid (HR.out.below hb2)
      replace HR2 := Lib.hid (HR2.out.below hb2)
      replace hb := bt hb hb2
      clear hb2
      go_wp2_with fail
      refine (CL.out _ HR2.out).mono ?_
      rintro e w7 ⟨rfl, hb2⟩
      replace HR := Lib.hid (HR.out.below hb2)
      replace HR2 := Lib.hid (HR2.out.below hb2)
      replace hb := bt hb hb2
      clear hb2
      go_wp2_with fail
      refine (CR.out _ HR2.out).mono ?_
      rintro e w8 ⟨rfl, hb2⟩
      replace HR := Lib.hid (HR.out.below hb2)
      replace HR2 := Lib.hid (HR2.out.below hb2)
      replace hb := bt hb hb2
      clear hb2
      go_wp2_with fail
      refine (FI.out _ HR.out HR2.out).mono ?_
      rintro e w9 ⟨rfl, hb2⟩
      replace HR := Lib.hid (HR.out.below hb2)
      replace HR2 := Lib.hid (HR2.out.below hb2)
      replace hb := bt hb hb2
      clear hb2
      go_wp2_with fail
      refine (FR.out _ HR.out HR2.out).mono ?_
      rintro e w10 ⟨rfl, hb2⟩
      replace HR := Lib.hid (HR.out.below hb2)
      replace HR2 := Lib.hid (HR2.out.below hb2)
      replace hb := bt hb hb2
      clear hb2
      go_wp2_with fail
      refine (LA.out _ HR.out HR2.out).mono ?_
      rintro e w11 ⟨v11, rfl, ⟨a11, c11, rfl, hc11, hm11, hr11⟩, hb2⟩
      replace HR := Lib.hid (HR.out.below hb2)
      replace HR2 := Lib.hid (HR2.out.below hb2)
      replace hb := bt hb hb2
      have HK := Lib.hid hr11
      clear hr11
      clear hb2
      go_wp2_with fail
      have MK := Lib.hid (Nat.le_trans hc11 hm11)
      clear hc11 hm11
      refine (LR.out _ HR.out HR2.out).mono ?_
      rintro e w12 ⟨v12, rfl, ⟨a12, c12, rfl, hc12, hm12, hr12⟩, hb2⟩
      replace HR := Lib.hid (HR.out.below hb2)
      replace HR2 := Lib.hid (HR2.out.below hb2)
      replace HK := Lib.hid (HK.out.below hb2)
      replace hb := bt hb hb2
      have HK2 := Lib.hid hr12
      clear hr12
      clear hb2
      go_wp2_with fail
      clear hc12 hm12
      refine (sameLn_any _ _ _ _ K K _ HK.out HK2.out MK.out).mono ?_
      rw [sameLn_rfl]
      rintro e w13 ⟨rfl, hb2⟩
      clear HK
      clear HK2
      replace HR := Lib.hid (HR.out.below hb2)
      replace HR2 := Lib.hid (HR2.out.below hb2)
      replace hb := bt hb hb2
      clear hb2
      go_wp2_with fail
      refine (TT.out _ HR2.out).mono ?_
      rintro e w14 ⟨rfl, hb2⟩
      replace HR := Lib.hid (HR.out.below hb2)
      replace HR2 := Lib.hid (HR2.out.below hb2)
      replace hb := bt hb hb2
      clear hb2
      go_wp2_with fail
      refine (TR.out _ HR2.out).mono ?_
      rintro e w15 ⟨rfl, hb2⟩
      replace HR := Lib.hid (HR.out.below hb2)
      replace HR2 := Lib.hid (HR2.out.below hb2)
      replace hb := bt hb hb2
      clear hb2
      go_wp2_with fail
      refine (awake_any _).mono ?_
      rintro e w16 ⟨rfl, hb2⟩
      clear HR
      clear HR2
      replace hb := bt hb hb2
      clear hb2
      go_wp2_with fail
      go_ret
      exact ⟨rfl, hb⟩
end Go.Proofs.Ytfnmaemeofkagaa
