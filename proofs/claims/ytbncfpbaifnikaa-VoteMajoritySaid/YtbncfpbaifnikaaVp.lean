/- The plain law of majorities: what a majority has in common is the result, and nothing else is. -/
import Derived.Test.YtbncfpbaifnikaaVs
namespace Go.Proofs.Ytbncfpbaifnikaa
open Go Go.RowKit

theorem alike_rz (x y : Int) : (rz 1 1 x).alike (rz 1 1 y) = (x == y) := by
  have hv : (rz 1 1 x).v.ord (rz 1 1 y).v = cmpI x y := by
    show (V.mk 1 x 0 ⟨#[]⟩ []).ord (V.mk 1 y 0 ⟨#[]⟩ []) = _
    rw [V.ord_mk]; simp
  have hc : (cmpI x y == 0) = (x == y) := by
    unfold cmpI
    by_cases h1 : x < y
    · have : x ≠ y := by omega
      simp [h1, this]
    · by_cases h2 : y < x
      · have : x ≠ y := by omega
        simp [h1, h2, this]
      · have : x = y := by omega
        simp [h1, h2, this]
  unfold Rp.alike idEq
  rw [hv, hc]
  simp [rz]
theorem likeN_rz (xs : List Int) (y : Int) : likeN (xs.map (rz 1 1)) (rz 1 1 y) = xs.count y := by
  unfold likeN
  rw [List.countP_map, List.count]
  congr 1
  funext x
  exact alike_rz x y

theorem count_two {x y : Int} (h : x ≠ y) : ∀ l : List Int, l.count x + l.count y ≤ l.length
  | [] => by simp
  | a :: l => by
    have := count_two h l
    rw [List.count_cons, List.count_cons, List.length_cons]
    by_cases h1 : a = x
    · have h2 : ¬ a = y := fun e => h (h1.symm.trans e)
      simp [h1, h]; omega
    · by_cases h2 : a = y
      · simp [h1, h2]
        have : ¬ y = x := fun e => h e.symm
        simp [this]; omega
      · simp [h1, h2]; omega

/-- The numbers as they come. -/
def ds (K T : Nat) (X : Nat → Int) (m : Nat) : List Int := (List.range m).map (fun i => X ((i + T) % K))
theorem ds_succ (K T : Nat) (X : Nat → Int) (m : Nat) : ds K T X (m + 1) = ds K T X m ++ [X ((m + T) % K)] := by
  unfold ds; rw [List.range_succ, List.map_append]; rfl
theorem ds_length (K T : Nat) (X : Nat → Int) (m : Nat) : (ds K T X m).length = m := by unfold ds; simp

structure MInv (K T : Nat) (X : Nat → Int) (m : Nat) (v : Vt) : Prop where
  id : v.c = 1 ∧ v.s = 1 ∧ v.e = 0
  n : v.n = K
  p : v.p = 1
  who : v.who = (List.range m).map (fun i => (((i + T) % K : Nat) : Int))
  l : v.l = (ds K T X m).map (rz 1 1)
  no : v.is = false → ∀ x, (ds K T X m).count x < K / 2 + 1
  yes : v.is = true → ∃ x, v.res = rz 1 1 x ∧ K / 2 + 1 ≤ (ds K T X m).count x
theorem MInv.start (K T : Nat) (X : Nat → Int) : MInv K T X 0 ⟨1, 1, 0, K, 1, [], [], false, zeroR⟩ :=
  ⟨⟨rfl, rfl, rfl⟩, rfl, rfl, rfl, rfl, fun _ x => by simp [ds], fun h => by cases h⟩
theorem MInv.fresh {K T : Nat} {X : Nat → Int} {m : Nat} {v : Vt} (h : MInv K T X m v) (hm : m < K) : (((m + T) % K : Nat) : Int) ∉ v.who := by
  rw [h.who]
  intro hin
  obtain ⟨i, hi, e⟩ := List.mem_map.1 hin
  have hi : i < m := by simpa using hi
  have e : (m + T) % K = (i + T) % K := by omega
  have := Nat.sub_mod_eq_zero_of_mod_eq e
  rw [show m + T - (i + T) = m - i by omega, Nat.mod_eq_of_lt (by omega)] at this
  omega

theorem decR_spec (need : Int) (l : List Rp) : ((decR need l).2 = true → (decR need l).1 ∈ l ∧ need ≤ likeN l (decR need l).1) ∧ ((decR need l).2 = false → ∀ r ∈ l, (likeN l r : Int) < need) := by
  unfold decR firstR
  cases hf : l.find? (fun r => decide (need ≤ likeN l r)) with
  | none =>
    refine ⟨fun h => (by cases h), fun _ r hr => ?_⟩
    have := List.find?_eq_none.1 hf r hr
    simpa using this
  | some r =>
    refine ⟨fun _ => ⟨List.mem_of_find?_eq_some hf, by simpa using List.find?_some hf⟩, fun h => by cases h⟩

theorem MInv.put {K T : Nat} (hK : 1 ≤ K ∧ K ≤ 7) {X : Nat → Int} {m : Nat} {v : Vt} (h : MInv K T X m v) : MInv K T X (m + 1) (v.put (((m + T) % K : Nat) : Int) (rz 1 1 (X ((m + T) % K)))) := by
  obtain ⟨e1, e2, e3, e4, e5, e6, e7⟩ := put_fields v (((m + T) % K : Nat) : Int) (rz 1 1 (X ((m + T) % K)))
  have hl : v.l ++ [cfR (rz 1 1 (X ((m + T) % K)))] = (ds K T X (m + 1)).map (rz 1 1) := by rw [h.l, cf_rz, ds_succ, List.map_append]; rfl
  have hneed : needI v.p v.n = ((K / 2 + 1 : Nat) : Int) := by
    rw [h.p, h.n]
    unfold needI nodesI
    rw [if_pos rfl]
    omega
  refine ⟨by rw [e1, e2, e3]; exact h.id, by rw [e4]; exact h.n, by rw [e5]; exact h.p, ?_, by rw [e7]; exact hl, ?_, ?_⟩
  · rw [e6, h.who, List.range_succ, List.map_append]; rfl
  · intro hi
    cases hv : v.is
    · obtain ⟨f1, f2⟩ := put_res (((m + T) % K : Nat) : Int) (rz 1 1 (X ((m + T) % K))) hv
      rw [f1, hl, hneed] at hi
      intro x
      by_cases hx : x ∈ ds K T X (m + 1)
      · have := (decR_spec _ _).2 hi (rz 1 1 x) (List.mem_map_of_mem hx)
        rw [likeN_rz] at this
        omega
      · rw [List.count_eq_zero_of_not_mem hx]; omega
    · rw [(put_stays _ _ hv).1] at hi; cases hi
  · intro hi
    cases hv : v.is
    · obtain ⟨f1, f2⟩ := put_res (((m + T) % K : Nat) : Int) (rz 1 1 (X ((m + T) % K))) hv
      rw [f1, hl, hneed] at hi
      obtain ⟨g1, g2⟩ := (decR_spec _ _).1 hi
      obtain ⟨x, hx, e⟩ := List.mem_map.1 g1
      rw [← e, likeN_rz] at g2
      refine ⟨x, by rw [f2, hl, hneed]; exact e.symm, by omega⟩
    · obtain ⟨x, hr, hc⟩ := h.yes hv
      refine ⟨x, by rw [(put_stays _ _ hv).2]; exact hr, ?_⟩
      rw [ds_succ, List.count_append]
      omega

/-- Two majorities are one. -/
theorem MInv.one {K T : Nat} {X : Nat → Int} {x y : Int} (h1 : K / 2 + 1 ≤ (ds K T X K).count x) (h2 : K / 2 + 1 ≤ (ds K T X K).count y) : x = y := by
  by_cases h : x = y
  · exact h
  · have := count_two h (ds K T X K)
    rw [ds_length] at this
    omega
end Go.Proofs.Ytbncfpbaifnikaa
