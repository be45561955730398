/- How an argument reads, with the platform's bound on each text in it. -/
import Derived.Test.YtopmppnnihdnaaaOpn
import Derived.SizedLaws
namespace Go.Proofs.Ytopmppnnihdnaaa
set_option linter.unusedVariables false
set_option linter.unusedSimpArgs false
open Go.ChangeShapes Go.WideShapes Go.ChangeAt Go.RowKit
def OpnW (P : Program) (T : TypeId) {α : Type} (av : α → AV) (good : α → Prop) : Prop :=
  ∀ {H : Type} (encH : TypeId × Value → H) (W : World) (bb : Nat) (spare : Nat → Bool) (held : Bool) (m : Nat) (cs : List Value) (y : DataW H × List MemPlace), DataW.trod encH P W bb spare held m T cs = some y → (∀ n, n ∈ y.1.weights P T → n ≤ reachBytes) → ∃ x : α, CL W cs (av x).cells ∧ good x
theorem Opn.w {P : Program} {T : TypeId} {α : Type} {av : α → AV} {good : α → Prop} (h : Opn P T av good) : OpnW P T av good := fun encH W bb spare held m cs y h1 _ => h encH W bb spare held m cs y h1
theorem opnW_str {P : Program} {T : TypeId} (ht : P.underlying T = some .string) : OpnW P T AV.str (fun s => s.size ≤ reachBytes) := by
  intro H encH W bb spare held m cs y h hw
  obtain ⟨n, rfl, rfl, _⟩ := DataW.trod_string ht h
  have := hw n.data.toList.length (by simp [DataW.weights])
  exact ⟨n, CL.one (.str _), by rw [Array.length_toList] at this; exact this⟩
theorem weightsAll_in {H : Type} {P : Program} {e : TypeId} {d : DataW H} {n : Nat} : ∀ {l : List (DataW H)}, d ∈ l → n ∈ d.weights P e → n ∈ DataW.weightsAll P e l := by
  intro l
  induction l with
  | nil => intro h; cases h
  | cons x l ih =>
    intro h hn
    rw [DataW.weightsAll, List.mem_append]
    rcases List.mem_cons.1 h with rfl | h
    · exact .inl hn
    · exact .inr (ih h hn)
theorem weights_in {H : Type} {P : Program} {T e : TypeId} (ht : P.underlying T = some (.slice e)) {d : DataW H} {l r : List (DataW H)} (hd : d ∈ l) {n : Nat} (hn : n ∈ d.weights P e) : n ∈ (DataW.slice l r).weights P T := by
  simp only [DataW.weights, ht, List.mem_cons, List.mem_append]
  exact .inr (.inl (weightsAll_in hd hn))
theorem opnW_slice {P : Program} {T e : TypeId} {α : Type} {av : α → AV} {good : α → Prop} {z : Nat} (ht : P.underlying T = some (.slice e)) (hc : P.cellsOf e = z) (hz0 : 0 < z) (hz : ∀ x, (av x).cells.length = z) (he : OpnW P e av good) :
    OpnW P T (fun l : List α => .sl (l.map av)) (fun l => l.length ≤ maxLen ∧ ∀ x, x ∈ l → good x) := by
  intro H encH W bb spare held m cs y h hw
  rcases DataW.trod_slice ht h with ⟨rfl, _⟩ | ⟨x, len, cap, elems, rest, n, _, rfl, rfl, _, hl, hm, hlen, hgot, _, _⟩
  · exact ⟨[], CL.one .slnil, Nat.zero_le _, fun x hx => by cases hx⟩
  · have each : ∀ i, i < len → ∃ y : α, good y ∧ ∃ cs, W.cells? bb (x.add (i * z)) z = some cs ∧ CL W cs (av y).cells := by
      intro i hi
      have h1 := hgot i hi
      rw [hc, List.getElem?_eq_getElem (by omega), Option.bind_eq_some_iff] at h1
      obtain ⟨cs, h2, h3⟩ := h1
      obtain ⟨y, hy, hg⟩ := he encH W bb spare held n cs _ h3 (fun q hq => hw q (weights_in ht (List.mem_map_of_mem (List.getElem_mem (by omega))) hq))
      exact ⟨y, hg, cs, h2, hy⟩
    obtain ⟨xs, hxl, hxs⟩ := exists_list len each
    subst hxl
    refine ⟨xs, CL.one ?_, by omega, fun y hy => ?_⟩
    · by_cases h0 : xs = []
      · subst h0; exact .slemp x cap hm
      · have hpos : 0 < xs.length := List.length_pos_iff.2 h0
        obtain ⟨_, cs0, g2, g3⟩ := hxs 0 hpos
        obtain ⟨_, gl, gcell⟩ := World.cells?_some g2
        have g4 := gcell 0 hz0
        rw [List.getElem?_eq_getElem (by omega)] at g4
        have e1 : (x.add (0 * z)).add 0 = x := by simp [Addr.add]
        rw [e1] at g4
        have hs1 := World.cell?_spot g4
        obtain ⟨b, off, spot⟩ := x
        simp only at hs1
        subst hs1
        have hb := World.block_lt_of_cell? W _ g4
        have hcell : ∀ (i j : Nat) (X y : AV), (xs.map av)[i]? = some X → X.cells[j]? = some y → ∃ u, W.cell? ⟨b, off + i * z + j, none⟩ = some u ∧ VRep [] W u y := by
          intro i j X y hi hj
          rw [List.getElem?_map, Option.map_eq_some_iff] at hi
          obtain ⟨q, hq, rfl⟩ := hi
          have hlt := (List.getElem?_eq_some_iff.1 hq).1
          obtain ⟨_, cs, c1, c2, c3⟩ := hxs i hlt
          have hqe : xs[i] = q := by rw [List.getElem?_eq_getElem hlt] at hq; exact Option.some.inj hq
          rw [hqe] at c2 c3
          obtain ⟨_, cl, ccell⟩ := World.cells?_some c1
          have hjz : j < z := by have := (List.getElem?_eq_some_iff.1 hj).1; rw [hz] at this; exact this
          have h3 := ccell j hjz
          rw [addr_add, addr_add] at h3
          rw [h3, List.getElem?_eq_getElem (by omega)]
          exact ⟨_, rfl, c3 j _ y (List.getElem?_eq_getElem (by omega)) hj⟩
        have : VRep [] W (.slice (some ⟨b, off, none⟩) (xs.map av).length cap) (.sl (xs.map av)) := by
          refine .sl b off cap z _ (by rw [List.length_map]; omega) hm hb (fun h hh => by cases hh) (fun X hX => ?_) (fun i j X y hi hj => ?_) (fun i j X y u hi hj hu => ?_)
          · obtain ⟨q, _, rfl⟩ := List.mem_map.1 hX
            exact hz q
          · obtain ⟨u, h1, _⟩ := hcell i j X y hi hj
            exact ⟨u, h1⟩
          · obtain ⟨u', h1, h2⟩ := hcell i j X y hi hj
            rw [h1] at hu; cases hu; exact h2
        rwa [List.length_map] at this
    · obtain ⟨i, hi, rfl⟩ := List.getElem_of_mem hy
      exact (hxs i hi).1
section
variable {P : Program} {T : TypeId} {α : Type} {av : α → AV} {good : α → Prop} {H : Type} {encH : TypeId × Value → H} {W : World} {b0 bb : Nat} {spare : Nat → Bool} {held : Bool} {v : Value} {d : DataW H} {p : List MemPlace} {r : Reach}
theorem topW_one (ho : OpnW P T av good) (hc : v.cells = #[v]) (h1 : ∀ x, (av x).cells = [av x]) (h : DataW.Trod encH P W bb spare held T v d p) (hw : ∀ n, n ∈ d.weights P T → n ≤ reachBytes) : ∃ x : α, VRep [] W v (av x) ∧ good x := by
  obtain ⟨fuel, hf⟩ := h
  obtain ⟨x, hx, hg⟩ := ho encH W bb spare held fuel _ _ hf hw
  rw [hc, h1] at hx
  exact ⟨x, hx.2 0 _ _ rfl rfl, hg⟩
theorem topW_int {k : IntKind} (ht : P.underlying T = some (.int k)) (ho : OpnW P T av good) (h1 : ∀ x, (av x).cells = [av x]) (hv : Value.okWide P W r b0 T v) (h : DataW.Trod encH P W bb spare held T v d p) (hw : ∀ n, n ∈ d.weights P T → n ≤ reachBytes) : ∃ x : α, VRep [] W v (av x) ∧ good x := by
  obtain ⟨n, rfl⟩ := okWide_int ht hv
  exact topW_one ho rfl h1 h hw
theorem topW_str (ht : P.underlying T = some .string) (ho : OpnW P T av good) (h1 : ∀ x, (av x).cells = [av x]) (hv : Value.okWide P W r b0 T v) (h : DataW.Trod encH P W bb spare held T v d p) (hw : ∀ n, n ∈ d.weights P T → n ≤ reachBytes) : ∃ x : α, VRep [] W v (av x) ∧ good x := by
  obtain ⟨n, rfl⟩ := okWide_string ht hv
  exact topW_one ho rfl h1 h hw
theorem topW_slice {e : TypeId} (ht : P.underlying T = some (.slice e)) (ho : OpnW P T av good) (h1 : ∀ x, (av x).cells = [av x]) (hv : Value.okWide P W r b0 T v) (h : DataW.Trod encH P W bb spare held T v d p) (hw : ∀ n, n ∈ d.weights P T → n ≤ reachBytes) : ∃ x : α, VRep [] W v (av x) ∧ good x := by
  obtain ⟨a, l, c, rfl⟩ := okWide_slice ht hv
  exact topW_one ho rfl h1 h hw
theorem sized_at {ts : List TypeId} {ds : List (DataW H)} (h : (DataW.weightsEach P ts ds).all (· ≤ reachBytes) = true) {j : Nat} (ht : ts[j]? = some T) (hd : ds[j]? = some d) : ∀ n, n ∈ d.weights P T → n ≤ reachBytes := fun n hn => by
  have := List.all_eq_true.1 h n (DataW.weights_mem_each ht hd n hn)
  simpa using this
end
end Go.Proofs.Ytopmppnnihdnaaa
