/- A call that was made. -/
import Derived.Test.YthogpkmidffdeaaDoorAmTys
import Derived.Test.YthogpkmidffdeaaDoorClientPlain
namespace Go.Proofs.YthogpkmidffdeaaDoor
set_option linter.unusedVariables false
set_option linter.unusedSimpArgs false
open Go.RowKit
open NumP
set_option maxRecDepth 100000
def aCo (s : Co) : AV := .agg [.int .i64 s.client, .int .i64 s.seq, .str s.payload, .int .i64 s.start, .int .i64 s.end_, .str s.reply]
theorem aCo_ext {x y : Co} (h : x.client = y.client ∧ x.seq = y.seq ∧ x.payload = y.payload ∧ x.start = y.start ∧ x.end_ = y.end_ ∧ x.reply = y.reply) : x = y := by
  obtain ⟨a0, a1, a2, a3, a4, a5⟩ := x
  obtain ⟨b0, b1, b2, b3, b4, b5⟩ := y
  simp only at h
  obtain ⟨rfl, rfl, rfl, rfl, rfl, rfl⟩ := h
  rfl
theorem aCo_ne {x y : Co} (h : ¬x.client = y.client ∨ ¬x.seq = y.seq ∨ ¬x.payload = y.payload ∨ ¬x.start = y.start ∨ ¬x.end_ = y.end_ ∨ ¬x.reply = y.reply) : x ≠ y := by
  intro e; subst e; simp at h
theorem Co_idx {l : List Co} {k : Nat} (h : k < l.length) : l.getD k default = l[k] := by simp [List.getD, h]
theorem pay_at {l : List Co} (hp : ∀ x, x ∈ l → x.payload.size ≤ 1000000) {k : Nat} (hk : k < l.length) : (l.getD k default).payload.size ≤ 1000000 := by
  rw [Co_idx hk]; exact hp _ (List.getElem_mem hk)
theorem co_map (l : List Co) (x : Co) : l.map aCo ++ [aCo x] = (l ++ [x]).map aCo := by simp
theorem co_filter (p : Co → Bool) (l : List Co) (k : Nat) (hk : k < l.length) : (l.take (k + 1)).filter p = if p (l.getD k default) = true then (l.take k).filter p ++ [l.getD k default] else (l.take k).filter p := by
  rw [List.take_succ_eq_append_getElem hk, List.filter_append, Co_idx hk]
  by_cases h : p l[k] = true <;> simp [h]
theorem co_app (p : Co → Bool) (l : List Co) (k : Nat) (hk : k < l.length) (h : p (l.getD k default) = true) : ((l.take k).filter p).map aCo ++ [aCo (l.getD k default)] = ((l.take (k + 1)).filter p).map aCo := by
  rw [co_filter p l k hk, if_pos h, co_map]
theorem noH_cos (m : Nat) (l : List Co) : NoH m (.sl (l.map aCo)) := by simp [AV.cells, aCo]
theorem ofP_len (l : List Co) (k : Nat) (c : Int) (hl : l.length ≤ 1000) : (ofP (l.take k) c).length ≤ 1000 ∧ ((ofP (l.take k) c).map aCo).length = (ofP (l.take k) c).length := by
  have h : (ofP (l.take k) c).length ≤ (l.take k).length := List.length_filter_le _ _
  rw [List.length_take] at h
  exact ⟨by omega, List.length_map ..⟩
theorem filter_len (p : Co → Bool) (l : List Co) : (l.filter p).length ≤ l.length := List.length_filter_le _ _
end Go.Proofs.YthogpkmidffdeaaDoor
