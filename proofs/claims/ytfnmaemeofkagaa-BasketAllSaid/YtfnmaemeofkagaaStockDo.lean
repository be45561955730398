/- The stock: what is done with an item, and with a stock. -/
import Derived.Test.YtfnmaemeofkagaaStockWith
namespace Go.Proofs.Ytfnmaemeofkagaa
open Go.ChangeShapes Go.WideShapes Go.ChangeAt Go.RowKit
open StockP
set_option maxRecDepth 100000
set_option maxHeartbeats 1000000 in
theorem in_any (n a b c d : Int) (w : World) (hn : -1000000 ≤ n ∧ n ≤ 1000000) (ha : -1000000 ≤ a ∧ a ≤ 1000000) (hb : -1000000 ≤ b ∧ b ≤ 1000000) (hc : -1000000 ≤ c ∧ c ≤ 1000000) (hd : -1000000 ≤ d ∧ d ≤ 1000000) :
    Calls Try.prog 36 #[.int .i64 n, itv a b c d] w fun e w' => e = .returned (.tuple #[itv (inG n ⟨a, b, c, d⟩).1.id (inG n ⟨a, b, c, d⟩).1.free (inG n ⟨a, b, c, d⟩).1.held (inG n ⟨a, b, c, d⟩).1.gone, .int .i64 (inG n ⟨a, b, c, d⟩).2]) ∧ Below w.heap.size w w' := by
  have M := Lib.hid (fun W => may_any a (b + n) c d W (by unfold fitT; simp only; omega))
  cases hm : may ⟨a, b + n, c, d⟩ with
  | true =>
    have hg : inG n ⟨a, b, c, d⟩ = (⟨a, b + n, c, d⟩, 0) := by unfold inG; simp only; rw [if_pos hm]
    rw [hm] at M
    rw [hg]
    clear hg hm
    go_enter Try.func36, Try.ntmps36
    go_wp2_with fail
    have hbel : Below w.heap.size w ((w.alloc (.cells #[.int .i64 a, .int .i64 (b + n), .int .i64 c, .int .i64 d] 42)).alloc (.cells #[.int .i64 0, .int .i64 0, .int .i64 0, .int .i64 0] 42)) := ((Below.refl _ _).alloc (Nat.le_refl _) _).alloc (by simp) _
    have F := two_items w (.int .i64 a) (.int .i64 (b + n)) (.int .i64 c) (.int .i64 d) 42
    generalize (w.alloc (.cells #[.int .i64 a, .int .i64 (b + n), .int .i64 c, .int .i64 d] 42)).alloc (.cells #[.int .i64 0, .int .i64 0, .int .i64 0, .int .i64 0] 42) = W0 at *
    obtain ⟨hs, x0, x1, x2, x3, y0, y1, y2, y3, f0, f1, f2, f3⟩ := F
    go_wp2_with fail
    refine (M.out _).mono ?_
    rintro e w2 ⟨rfl, hb2⟩
    obtain ⟨ks, k0, k1, k2, k3, l0, l1, l2, l3, m0, m1, m2, m3⟩ := TwoItems.below ⟨hs, x0, x1, x2, x3, y0, y1, y2, y3, f0, f1, f2, f3⟩ hb2
    go_wp2_with fail
    obtain ⟨r0, r1, r2, r3⟩ := four_cells l0 l1 l2 l3 (.int .i64 a) (.int .i64 (b + n)) (.int .i64 c) (.int .i64 d)
    refine bodyPost_ret (v := .tuple #[itv a (b + n) c d, .int .i64 0]) (by simp [results, Try.results36, go_sem, r0, r1, r2, r3]) rfl ⟨rfl, ?_⟩
    have hw2 := bt hbel hb2
    exact (((hw2.setCell (p := ⟨w.heap.size + 1, 0, none⟩) (Nat.le_succ _) _).setCell (p := ⟨w.heap.size + 1, 1, none⟩) (Nat.le_succ _) _).setCell (p := ⟨w.heap.size + 1, 2, none⟩) (Nat.le_succ _) _).setCell (p := ⟨w.heap.size + 1, 3, none⟩) (Nat.le_succ _) _
  | false =>
    have hg : inG n ⟨a, b, c, d⟩ = (⟨0, 0, 0, 0⟩, 43) := by unfold inG; simp only; rw [if_neg (by rw [hm]; simp)]
    rw [hm] at M
    rw [hg]
    clear hg hm
    go_enter Try.func36, Try.ntmps36
    go_wp2_with fail
    have hbel : Below w.heap.size w ((w.alloc (.cells #[.int .i64 a, .int .i64 (b + n), .int .i64 c, .int .i64 d] 42)).alloc (.cells #[.int .i64 0, .int .i64 0, .int .i64 0, .int .i64 0] 42)) := ((Below.refl _ _).alloc (Nat.le_refl _) _).alloc (by simp) _
    have F := two_items w (.int .i64 a) (.int .i64 (b + n)) (.int .i64 c) (.int .i64 d) 42
    generalize (w.alloc (.cells #[.int .i64 a, .int .i64 (b + n), .int .i64 c, .int .i64 d] 42)).alloc (.cells #[.int .i64 0, .int .i64 0, .int .i64 0, .int .i64 0] 42) = W0 at *
    obtain ⟨hs, x0, x1, x2, x3, y0, y1, y2, y3, f0, f1, f2, f3⟩ := F
    go_wp2_with fail
    refine (M.out _).mono ?_
    rintro e w2 ⟨rfl, hb2⟩
    obtain ⟨ks, k0, k1, k2, k3, l0, l1, l2, l3, m0, m1, m2, m3⟩ := TwoItems.below ⟨hs, x0, x1, x2, x3, y0, y1, y2, y3, f0, f1, f2, f3⟩ hb2
    go_wp2_with fail
    obtain ⟨r0, r1, r2, r3⟩ := four_cells l0 l1 l2 l3 (.int .i64 0) (.int .i64 0) (.int .i64 0) (.int .i64 0)
    refine bodyPost_ret (v := .tuple #[itv 0 0 0 0, .int .i64 43]) (by simp [results, Try.results36, go_sem, r0, r1, r2, r3]) rfl ⟨rfl, ?_⟩
    have hw2 := bt hbel hb2
    exact (((hw2.setCell (p := ⟨w.heap.size + 1, 0, none⟩) (Nat.le_succ _) _).setCell (p := ⟨w.heap.size + 1, 1, none⟩) (Nat.le_succ _) _).setCell (p := ⟨w.heap.size + 1, 2, none⟩) (Nat.le_succ _) _).setCell (p := ⟨w.heap.size + 1, 3, none⟩) (Nat.le_succ _) _
/-- with, where the quantity is one -/
theorem with_asked {g h : It → It × Int} {l : List It} {id q : Int} (e : 1 ≤ q → q ≤ 1000000 → ∀ x, may x = true → g x = h x) : withP g l id q = withP h l id q := by
  unfold withP
  by_cases ha : askedB l q = true
  · rw [if_pos ha, if_pos ha]
    split
    · rename_i hp
      have hm : may l[place (fun x => x.id == id) l] = true := by
        unfold askedB ok at ha; simp at ha
        exact okFrom_may ha.1.2 _ (List.getElem_mem hp)
      have : 1 ≤ q ∧ q ≤ 1000000 := by unfold askedB at ha; simp at ha; omega
      rw [e this.1 this.2 _ hm]
    · rfl
  · rw [if_neg ha, if_neg ha]
theorem GotL.hnil {w : World} {W : World} {e : Int} (h : Below w.heap.size w W) : GotL ([], e) w (.returned (.tuple #[.slice none 0 0, .int .i64 e])) W := ⟨_, rfl, IsSl.nil _ _ _, Above.nil _, h⟩
set_option maxHeartbeats 1000000 in
theorem with_none (F : Nat) (n : Int) (a : Option Addr) (cap : Nat) (xs : List It) (id q : Int) (w : World) (hr : Reads encT 4 w a xs) (hl : xs.length ≤ maxLen) (hf : ∀ x, x ∈ xs → fitT x) (ha : askedB xs q = false) :
    Calls Try.prog 35 #[.slice a xs.length cap, .int .i64 id, .int .i64 q, .func (.func F) #[.int .i64 n] #[]] w (GotL ([], 2) w) := by
  have A := Lib.hid (fun W h => asked_any a cap xs q W h hl hf)
  rw [ha] at A
  have HR := Lib.hid hr
  clear hr ha
  go_enter Try.func35, Try.ntmps35
  go_wp2_with fail
  refine (A.out _ HR.out).mono ?_
  rintro e w1 ⟨rfl, hb⟩
  go_wp2_with fail
  go_ret2
  exact GotL.hnil hb
set_option maxHeartbeats 1000000 in
theorem reserve_any (a : Option Addr) (cap : Nat) (xs : List It) (id q : Int) (w : World) (hr : Reads encT 4 w a xs) (hl : xs.length ≤ maxLen) (hf : ∀ x, x ∈ xs → fitT x) :
    Calls Try.prog 21 #[.slice a xs.length cap, .int .i64 id, .int .i64 q] w (GotL (withP (holdG q) xs id q) w) := by
  have hq : ∀ x, may x = true → 1 ≤ q → q ≤ 1000000 → ∀ W, Calls Try.prog 34 #[.int .i64 q, itv x.id x.free x.held x.gone] W fun e w' => e = .returned (.tuple #[itv (holdG q x).1.id (holdG q x).1.free (holdG q x).1.held (holdG q x).1.gone, .int .i64 (holdG q x).2]) ∧ Below W.heap.size W w' := by
    intro x hx h1 h2 W
    have := may_bd hx
    exact hold_any q x.id x.free x.held x.gone W (by omega) (by omega) (by omega)
  have HR := Lib.hid hr
  have HQ := Lib.hid hq
  clear hr hq
  by_cases ha : 1 ≤ q ∧ q ≤ 1000000
  · have C := Lib.hid (fun W h => with_any 34 q (holdG q) a cap xs id q W h hl hf (fun _ _ => by rfl) (fun x hx W => HQ.out x hx ha.1 ha.2 W))
    clear hf hl ha
    go_enter Try.func21, Try.ntmps21
    go_wp2_with fail
    refine (C.out _ HR.out).mono ?_
    rintro e w1 ⟨v, rfl, hsl, hab, hb⟩
    have HS := Lib.hid (And.intro hsl hab)
    clear hsl hab
    go_wp2_with fail
    go_ret2
    exact ⟨_, rfl, HS.out.1, HS.out.2, hb⟩
  · have hw : withP (holdG q) xs id q = ([], 2) := by unfold withP askedB; rw [if_neg (by simp; omega)]
    have hb0 : askedB xs q = false := by unfold askedB; simp; omega
    rw [hw]
    have C := Lib.hid (fun W h => with_none 34 q a cap xs id q W h hl hf hb0)
    clear hf hl ha hw hb0
    go_enter Try.func21, Try.ntmps21
    go_wp2_with fail
    refine (C.out _ HR.out).mono ?_
    rintro e w1 ⟨v, rfl, hsl, hab, hb⟩
    have HS := Lib.hid (And.intro hsl hab)
    clear hsl hab
    go_wp2_with fail
    go_ret2
    exact ⟨_, rfl, HS.out.1, HS.out.2, hb⟩
set_option maxHeartbeats 1000000 in
theorem release_any (a : Option Addr) (cap : Nat) (xs : List It) (id q : Int) (w : World) (hr : Reads encT 4 w a xs) (hl : xs.length ≤ maxLen) (hf : ∀ x, x ∈ xs → fitT x) :
    Calls Try.prog 27 #[.slice a xs.length cap, .int .i64 id, .int .i64 q] w (GotL (withP (freeG q) xs id q) w) := by
  have hq : ∀ x, may x = true → 1 ≤ q → q ≤ 1000000 → ∀ W, Calls Try.prog 40 #[.int .i64 q, itv x.id x.free x.held x.gone] W fun e w' => e = .returned (.tuple #[itv (freeG q x).1.id (freeG q x).1.free (freeG q x).1.held (freeG q x).1.gone, .int .i64 (freeG q x).2]) ∧ Below W.heap.size W w' := by
    intro x hx h1 h2 W
    have := may_bd hx
    exact free_any q x.id x.free x.held x.gone W (by omega) (by omega) (by omega)
  have HR := Lib.hid hr
  have HQ := Lib.hid hq
  clear hr hq
  by_cases ha : 1 ≤ q ∧ q ≤ 1000000
  · have C := Lib.hid (fun W h => with_any 40 q (freeG q) a cap xs id q W h hl hf (fun _ _ => by rfl) (fun x hx W => HQ.out x hx ha.1 ha.2 W))
    clear hf hl ha
    go_enter Try.func27, Try.ntmps27
    go_wp2_with fail
    refine (C.out _ HR.out).mono ?_
    rintro e w1 ⟨v, rfl, hsl, hab, hb⟩
    have HS := Lib.hid (And.intro hsl hab)
    clear hsl hab
    go_wp2_with fail
    go_ret2
    exact ⟨_, rfl, HS.out.1, HS.out.2, hb⟩
  · have hw : withP (freeG q) xs id q = ([], 2) := by unfold withP askedB; rw [if_neg (by simp; omega)]
    have hb0 : askedB xs q = false := by unfold askedB; simp; omega
    rw [hw]
    have C := Lib.hid (fun W h => with_none 40 q a cap xs id q W h hl hf hb0)
    clear hf hl ha hw hb0
    go_enter Try.func27, Try.ntmps27
    go_wp2_with fail
    refine (C.out _ HR.out).mono ?_
    rintro e w1 ⟨v, rfl, hsl, hab, hb⟩
    have HS := Lib.hid (And.intro hsl hab)
    clear hsl hab
    go_wp2_with fail
    go_ret2
    exact ⟨_, rfl, HS.out.1, HS.out.2, hb⟩
set_option maxHeartbeats 1000000 in
theorem restock_any (a : Option Addr) (cap : Nat) (xs : List It) (id q : Int) (w : World) (hr : Reads encT 4 w a xs) (hl : xs.length ≤ maxLen) (hf : ∀ x, x ∈ xs → fitT x) :
    Calls Try.prog 22 #[.slice a xs.length cap, .int .i64 id, .int .i64 q] w (GotL (withP (inG q) xs id q) w) := by
  have hq : ∀ x, may x = true → 1 ≤ q → q ≤ 1000000 → ∀ W, Calls Try.prog 36 #[.int .i64 q, itv x.id x.free x.held x.gone] W fun e w' => e = .returned (.tuple #[itv (inG q x).1.id (inG q x).1.free (inG q x).1.held (inG q x).1.gone, .int .i64 (inG q x).2]) ∧ Below W.heap.size W w' := by
    intro x hx h1 h2 W
    have := may_bd hx
    exact in_any q x.id x.free x.held x.gone W (by omega) (by omega) (by omega) (by omega) (by omega)
  have HR := Lib.hid hr
  have HQ := Lib.hid hq
  clear hr hq
  by_cases ha : 1 ≤ q ∧ q ≤ 1000000
  · have C := Lib.hid (fun W h => with_any 36 q (inG q) a cap xs id q W h hl hf (fun _ _ => by rfl) (fun x hx W => HQ.out x hx ha.1 ha.2 W))
    clear hf hl ha
    go_enter Try.func22, Try.ntmps22
    go_wp2_with fail
    refine (C.out _ HR.out).mono ?_
    rintro e w1 ⟨v, rfl, hsl, hab, hb⟩
    have HS := Lib.hid (And.intro hsl hab)
    clear hsl hab
    go_wp2_with fail
    go_ret2
    exact ⟨_, rfl, HS.out.1, HS.out.2, hb⟩
  · have hw : withP (inG q) xs id q = ([], 2) := by unfold withP askedB; rw [if_neg (by simp; omega)]
    have hb0 : askedB xs q = false := by unfold askedB; simp; omega
    rw [hw]
    have C := Lib.hid (fun W h => with_none 36 q a cap xs id q W h hl hf hb0)
    clear hf hl ha hw hb0
    go_enter Try.func22, Try.ntmps22
    go_wp2_with fail
    refine (C.out _ HR.out).mono ?_
    rintro e w1 ⟨v, rfl, hsl, hab, hb⟩
    have HS := Lib.hid (And.intro hsl hab)
    clear hsl hab
    go_wp2_with fail
    go_ret2
    exact ⟨_, rfl, HS.out.1, HS.out.2, hb⟩
end Go.Proofs.Ytfnmaemeofkagaa
