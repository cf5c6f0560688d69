/- Values read, as plain data: strictly as the program does it, loosely as the reference does it. -/
import Derived.Test.YtkhgbbloeeaceaaPz
namespace Go.Proofs.Ytkhgbbloeeaceaa
open Go Go.RowKit
set_option maxRecDepth 16000

def rdItems (f : List Int → Option (V × Nat)) : Nat → List Int → Option (List V × Nat)
  | 0, _ => some ([], 0)
  | m + 1, zs => match f zs with
    | none => none
    | some (v, n) => match rdItems f m (zs.drop n) with
      | none => none
      | some (vs, k) => some (v :: vs, n + k)
def i64N (n : Nat) : Int := wrap64 n
/-- One value out of bytes: it, and how many bytes. -/
def rd (strict : Bool) : Nat → List Int → Option (V × Nat)
  | 0, _ => none
  | d + 1, zs =>
    match zs with
    | [] => none
    | c :: r =>
      if c = 0 then some (V.nil, 1)
      else if c = 1 then (if r.length < 8 then none else some (V.int (i64N (beN (r.take 8))), 9))
      else if c = 2 then (if r.length < 8 then none else if canonN (beN (r.take 8)) = beN (r.take 8) then some (V.flt (beN (r.take 8)), 9) else none)
      else if c = 3 then (if (rtext r 256).2.2 = 0 then some (V.txt (rtext r 256).1, 1 + (rtext r 256).2.1.toNat) else none)
      else if c = 4 then (if strict = true ∧ d = 0 then none else match r with
        | [] => none
        | n :: r2 => if 64 < n then none else match rdItems (rd strict d) n.toNat r2 with
          | none => none
          | some (vs, k) => some (V.lst vs, 2 + k))
      else none

theorem rdItems_snoc (f) : ∀ (m : Nat) (zs : List Int), rdItems f (m + 1) zs = match rdItems f m zs with
    | none => none
    | some (vs, k) => match f (zs.drop k) with
      | none => none
      | some (v, n) => some (vs ++ [v], k + n)
  | 0, zs => by
    simp only [rdItems, List.drop_zero]
    cases f zs with
    | none => rfl
    | some p => obtain ⟨v, n⟩ := p; simp
  | m + 1, zs => by
    rw [rdItems]
    cases h : f zs with
    | none => simp only [rdItems, h]
    | some p =>
      obtain ⟨v, n⟩ := p
      simp only [rdItems, h]
      have := rdItems_snoc f m (zs.drop n)
      rw [rdItems] at this
      rw [this]
      cases rdItems f m (zs.drop n) with
      | none => rfl
      | some q =>
        obtain ⟨vs, k⟩ := q
        simp only [List.drop_drop]
        cases f (zs.drop (n + k)) with
        | none => rfl
        | some x => obtain ⟨y, j⟩ := x; simp [Nat.add_assoc]
theorem rdItems_none (f) {m : Nat} {zs : List Int} (h : rdItems f m zs = none) : ∀ j, rdItems f (m + j) zs = none
  | 0 => h
  | j + 1 => by rw [← Nat.add_assoc, rdItems_snoc, rdItems_none f h j]
theorem rdItems_length (f) : ∀ {m : Nat} {zs : List Int} {vs k}, rdItems f m zs = some (vs, k) → vs.length = m
  | 0, zs, vs, k, h => by simp only [rdItems, Option.some.injEq, Prod.mk.injEq] at h; rw [← h.1]; rfl
  | m + 1, zs, vs, k, h => by
    rw [rdItems] at h
    cases hf : f zs with
    | none => rw [hf] at h; cases h
    | some p =>
      obtain ⟨v, n⟩ := p
      rw [hf] at h
      simp only at h
      cases hr : rdItems f m (zs.drop n) with
      | none => rw [hr] at h; cases h
      | some q =>
        obtain ⟨ws, j⟩ := q
        rw [hr] at h
        simp only [Option.some.injEq, Prod.mk.injEq] at h
        rw [← h.1, List.length_cons, rdItems_length f hr]
theorem rdItems_le (f) (hf : ∀ zs v n, f zs = some (v, n) → n ≤ zs.length) : ∀ {m : Nat} {zs : List Int} {vs k}, rdItems f m zs = some (vs, k) → k ≤ zs.length
  | 0, zs, vs, k, h => by simp only [rdItems, Option.some.injEq, Prod.mk.injEq] at h; omega
  | m + 1, zs, vs, k, h => by
    rw [rdItems] at h
    cases hz : f zs with
    | none => rw [hz] at h; cases h
    | some p =>
      obtain ⟨v, n⟩ := p
      rw [hz] at h
      simp only at h
      cases hr : rdItems f m (zs.drop n) with
      | none => rw [hr] at h; cases h
      | some q =>
        obtain ⟨ws, j⟩ := q
        rw [hr] at h
        simp only [Option.some.injEq, Prod.mk.injEq] at h
        have h1 := hf _ _ _ hz
        have h2 := rdItems_le f hf hr
        rw [List.length_drop] at h2
        omega

theorem rtext_ok {zs : List Int} {most : Int} (h : (rtext zs most).2.2 = 0) : 2 ≤ zs.length ∧ (beN (zs.take 2) : Int) ≤ most ∧ beN (zs.take 2) + 2 ≤ zs.length ∧ rtext zs most = (txtB ((zs.drop 2).take (beN (zs.take 2))), 2 + (beN (zs.take 2) : Int), 0) := by
  unfold rtext at h ⊢
  by_cases h1 : zs.length < 2
  · rw [if_pos h1] at h; simp at h
  rw [if_neg h1] at h ⊢
  by_cases h2 : most < beN (zs.take 2) ∨ (zs.length : Int) - 2 < beN (zs.take 2)
  · rw [if_pos h2] at h; simp at h
  rw [if_neg h2]
  exact ⟨by omega, by omega, by omega, rfl⟩

theorem rd_zero (s zs) : rd s 0 zs = none := by unfold rd; rfl
theorem rd_nil (s d) : rd s d [] = none := by cases d <;> (unfold rd; rfl)
theorem rd_cons (s d c r) : rd s (d + 1) (c :: r) = if c = 0 then some (V.nil, 1)
      else if c = 1 then (if r.length < 8 then none else some (V.int (i64N (beN (r.take 8))), 9))
      else if c = 2 then (if r.length < 8 then none else if canonN (beN (r.take 8)) = beN (r.take 8) then some (V.flt (beN (r.take 8)), 9) else none)
      else if c = 3 then (if (rtext r 256).2.2 = 0 then some (V.txt (rtext r 256).1, 1 + (rtext r 256).2.1.toNat) else none)
      else if c = 4 then (if s = true ∧ d = 0 then none else match r with
        | [] => none
        | n :: r2 => if 64 < n then none else match rdItems (rd s d) n.toNat r2 with
          | none => none
          | some (vs, k) => some (V.lst vs, 2 + k))
      else none := by conv => lhs; unfold rd
/-- The list of what was read. -/
def rdLst : Option (List V × Nat) → Option (V × Nat)
  | none => none
  | some (vs, k) => some (V.lst vs, 2 + k)
theorem rd_four (s d n r2) : rd s (d + 1) (4 :: n :: r2) = if s = true ∧ d = 0 then none else if 64 < n then none else rdLst (rdItems (rd s d) n.toNat r2) := by
  rw [rd_cons]
  simp only [show ¬ (4 : Int) = 0 by omega, show ¬ (4 : Int) = 1 by omega, show ¬ (4 : Int) = 2 by omega, show ¬ (4 : Int) = 3 by omega, if_false, if_true]
  split
  · rfl
  · split
    · rfl
    · cases rdItems (rd s d) n.toNat r2 <;> rfl
theorem rd_list {s d r v n} (h : rd s (d + 1) (4 :: r) = some (v, n)) : ¬ (s = true ∧ d = 0) ∧ ∃ m r2 vs k, r = m :: r2 ∧ m ≤ 64 ∧ rdItems (rd s d) m.toNat r2 = some (vs, k) ∧ v = V.lst vs ∧ n = 2 + k := by
  rw [rd_cons] at h
  simp only [show ¬ (4 : Int) = 0 by omega, show ¬ (4 : Int) = 1 by omega, show ¬ (4 : Int) = 2 by omega, show ¬ (4 : Int) = 3 by omega, if_false, if_true] at h
  by_cases h1 : s = true ∧ d = 0
  · rw [if_pos h1] at h; cases h
  rw [if_neg h1] at h
  refine ⟨h1, ?_⟩
  cases r with
  | nil => cases h
  | cons m r2 =>
    simp only at h
    by_cases h2 : 64 < m
    · rw [if_pos h2] at h; cases h
    rw [if_neg h2] at h
    cases h3 : rdItems (rd s d) m.toNat r2 with
    | none => rw [h3] at h; cases h
    | some q =>
      obtain ⟨vs, k⟩ := q
      rw [h3] at h
      simp only [Option.some.injEq, Prod.mk.injEq] at h
      exact ⟨m, r2, vs, k, rfl, by omega, h3, h.1.symm, h.2.symm⟩

theorem rd_le (s : Bool) : ∀ (d : Nat) (zs : List Int) (v : V) (n : Nat), rd s d zs = some (v, n) → n ≤ zs.length
  | 0, zs, v, n, h => by rw [rd_zero] at h; cases h
  | d + 1, [], v, n, h => by rw [rd_nil] at h; cases h
  | d + 1, c :: r, v, n, h => by
    by_cases h4 : c = 4
    · subst h4
      obtain ⟨_, m, r2, vs, k, rfl, _, h2, _, rfl⟩ := rd_list h
      have := rdItems_le _ (rd_le s d) h2
      simp only [List.length_cons]; omega
    rw [rd_cons] at h
    by_cases h0 : c = 0
    · rw [if_pos h0] at h; simp only [Option.some.injEq, Prod.mk.injEq] at h; simp only [List.length_cons]; omega
    rw [if_neg h0] at h
    by_cases h1 : c = 1
    · rw [if_pos h1] at h
      by_cases hl : r.length < 8
      · rw [if_pos hl] at h; cases h
      · rw [if_neg hl] at h; simp only [Option.some.injEq, Prod.mk.injEq] at h; simp only [List.length_cons]; omega
    rw [if_neg h1] at h
    by_cases h2 : c = 2
    · rw [if_pos h2] at h
      by_cases hl : r.length < 8
      · rw [if_pos hl] at h; cases h
      · rw [if_neg hl] at h
        by_cases hc : canonN (beN (r.take 8)) = beN (r.take 8)
        · rw [if_pos hc] at h; simp only [Option.some.injEq, Prod.mk.injEq] at h; simp only [List.length_cons]; omega
        · rw [if_neg hc] at h; cases h
    rw [if_neg h2] at h
    by_cases h3 : c = 3
    · rw [if_pos h3] at h
      by_cases hl : (rtext r 256).2.2 = 0
      · rw [if_pos hl] at h
        simp only [Option.some.injEq, Prod.mk.injEq] at h
        obtain ⟨q1, q2, q3, q4⟩ := rtext_ok hl
        rw [q4] at h
        simp only [List.length_cons] at h ⊢; omega
      · rw [if_neg hl] at h; cases h
    rw [if_neg h3, if_neg h4] at h
    cases h

/-- What is read strictly is read loosely, and just so. -/
theorem rdItems_mono {f g : List Int → Option (V × Nat)} (h : ∀ zs p, f zs = some p → g zs = some p) : ∀ (m : Nat) (zs : List Int) p, rdItems f m zs = some p → rdItems g m zs = some p
  | 0, zs, p, hp => hp
  | m + 1, zs, p, hp => by
    rw [rdItems] at hp ⊢
    cases hf : f zs with
    | none => rw [hf] at hp; cases hp
    | some q =>
      obtain ⟨v, n⟩ := q
      rw [hf] at hp
      rw [h _ _ hf]
      simp only at hp ⊢
      cases hr : rdItems f m (zs.drop n) with
      | none => rw [hr] at hp; cases hp
      | some x => rw [hr] at hp; rw [rdItems_mono h m _ _ hr]; exact hp
theorem rd_loose : ∀ (d : Nat) (zs : List Int) p, rd true d zs = some p → rd false d zs = some p
  | 0, zs, p, h => by rw [rd_zero] at h; cases h
  | d + 1, [], p, h => by rw [rd_nil] at h; cases h
  | d + 1, c :: r, p, h => by
    by_cases h4 : c = 4
    · subst h4
      obtain ⟨v, n⟩ := p
      obtain ⟨h0, m, r2, vs, k, rfl, hm, h2, rfl, rfl⟩ := rd_list h
      rw [rd_cons]
      simp only [show ¬ (4 : Int) = 0 by omega, show ¬ (4 : Int) = 1 by omega, show ¬ (4 : Int) = 2 by omega, show ¬ (4 : Int) = 3 by omega, if_false, if_true, Bool.false_eq_true, false_and]
      rw [if_neg (by omega), rdItems_mono (rd_loose d) _ _ _ h2]
    · rw [rd_cons] at h ⊢
      simp only [if_neg h4] at h ⊢
      exact h
/-- What is read loosely, and is not too deep, is read strictly. -/
theorem rd_strict : ∀ (d : Nat) (zs : List Int) v n, rd false (d + 1) zs = some (v, n) → v.great d = false → rd true (d + 1) zs = some (v, n)
  | d, [], v, n, h, _ => by rw [rd_nil] at h; cases h
  | d, c :: r, v, n, h, hg => by
    by_cases h4 : c = 4
    · subst h4
      obtain ⟨_, m, r2, vs, k, rfl, hm, h2, rfl, rfl⟩ := rd_list h
      unfold V.lst at hg
      rw [V.great_mk] at hg
      simp only [show ¬ (4 : Int) = 3 by omega, if_false, if_true] at hg
      have hne : ¬ (64 < vs.length ∨ d = 0) := fun h => by rw [if_pos h] at hg; cases hg
      rw [if_neg hne, V.greats_any] at hg
      obtain ⟨e, rfl⟩ : ∃ e, d = e + 1 := ⟨d - 1, by omega⟩
      simp only [Nat.add_sub_cancel] at hg
      have : ∀ (m : Nat) (zs : List Int) vs k, rdItems (rd false (e + 1)) m zs = some (vs, k) → vs.any (fun t => t.great e) = false → rdItems (rd true (e + 1)) m zs = some (vs, k) := by
        intro m
        induction m with
        | zero => intro zs vs k h _; exact h
        | succ m ih =>
          intro zs vs k h hv
          rw [rdItems] at h ⊢
          cases hf : rd false (e + 1) zs with
          | none => rw [hf] at h; cases h
          | some q =>
            obtain ⟨x, j⟩ := q
            rw [hf] at h
            simp only at h
            cases hr : rdItems (rd false (e + 1)) m (zs.drop j) with
            | none => rw [hr] at h; cases h
            | some q2 =>
              obtain ⟨xs, i⟩ := q2
              rw [hr] at h
              simp only [Option.some.injEq, Prod.mk.injEq] at h
              obtain ⟨rfl, rfl⟩ := h
              rw [List.any_cons, Bool.or_eq_false_iff] at hv
              rw [rd_strict e _ _ _ hf hv.1]
              simp only
              rw [ih _ _ _ hr hv.2]
      rw [rd_cons]
      simp only [show ¬ (4 : Int) = 0 by omega, show ¬ (4 : Int) = 1 by omega, show ¬ (4 : Int) = 2 by omega, show ¬ (4 : Int) = 3 by omega, if_false, if_true]
      rw [if_neg (by omega), if_neg (by omega), this _ _ _ _ h2 hg]
    · rw [rd_cons] at h ⊢
      simp only [if_neg h4] at h ⊢
      exact h

/-- What Read tells: a value, how many bytes, an error's number. -/
def vread (r : Option (V × Nat)) : V × Int × Int := match r with
  | none => (V.nil, 0, 20)
  | some (v, n) => if v.check = 0 then (v, n, 0) else (V.nil, 0, 20)
theorem vread_same (zs : List Int) : vread (rd false 9 zs) = vread (rd true 9 zs) := by
  cases h : rd true 9 zs with
  | some p => rw [rd_loose 9 zs p h]
  | none =>
    cases h2 : rd false 9 zs with
    | none => rfl
    | some p =>
      obtain ⟨v, n⟩ := p
      unfold vread
      simp only
      by_cases hc : v.check = 0
      · have := rd_strict 8 zs v n h2 (V.check_zero hc).2.1
        rw [h] at this; cases this
      · rw [if_neg hc]
end Go.Proofs.Ytkhgbbloeeaceaa
