/- Lists of whole numbers searched; majorities. -/
import Derived.Test.YtbncfpbaifnikaaI
namespace Go.Proofs.Ytbncfpbaifnikaa
open Go Go.RowKit

/-- The place of x in l from i on. -/
def idx (x : Int) : List Int → Int → Int
  | [], _ => -1
  | y :: ys, i => if y = x then i else idx x ys (i + 1)
theorem idx_skip (x : Int) : ∀ (l : List Int) (m : Nat) (i : Int), m ≤ l.length → (∀ j, j < m → ∀ h : j < l.length, l[j] ≠ x) → idx x l i = idx x (l.drop m) (i + m)
  | _, 0, i, _, _ => by simp
  | [], m + 1, _, h, _ => by simp at h
  | y :: ys, m + 1, i, h, hne => by
    have h0 := hne 0 (by omega) (by simp)
    simp only [List.getElem_cons_zero] at h0
    rw [idx, if_neg h0, idx_skip x ys m (i + 1) (by simpa using h) (fun j hj hh => by have := hne (j + 1) (by omega) (by simpa using hh); simpa using this)]
    simp only [List.drop_succ_cons]
    congr 1
    omega
theorem idx_found (x : Int) (l : List Int) (m : Nat) (hm : m < l.length) (hne : ∀ j, j < m → ∀ h : j < l.length, l[j] ≠ x) (he : l[m] = x) : idx x l 0 = m := by
  rw [idx_skip x l m 0 (by omega) hne, List.drop_eq_getElem_cons hm, idx, if_pos he]; omega
theorem idx_none (x : Int) (l : List Int) (hne : ∀ j, j < l.length → ∀ h : j < l.length, l[j] ≠ x) : idx x l 0 = -1 := by
  rw [idx_skip x l l.length 0 (by omega) hne]; simp [idx]

theorem index_c (a : Option Addr) (c : Nat) (l : List Int) (x : Int) (w : World) (hl : l.length ≤ 9223372036854775807)
    (hc : ∀ j (h : j < l.length), ∃ b o, a = some ⟨b, o, none⟩ ∧ w.cell? ⟨b, o + j, none⟩ = some (.int .i64 l[j])) :
    Calls Try.prog 44 #[.slice a l.length c, .int .i64 x] w fun e w' => e = .returned (.int .i64 (idx x l 0)) ∧ w = w' := by
  have HC := Lib.hid hc
  clear hc
  generalize hr : idx x l 0 = r
  have HR := Lib.hid hr
  clear hr
  go_enter Try.func44, Try.ntmps44
  go_wp2_with fail
  go_loop [8] (fun j => ∃ m : Nat, m ≤ l.length ∧ j = .int .i64 m ∧ Hid (∀ j, j < m → ∀ h : j < l.length, l[j] ≠ x)) (fun i => l.length - (intOf i).toNat)
  case atStart => exact ⟨0, by omega, rfl, fun j h => by omega⟩
  case round =>
    obtain ⟨m, hm, rfl, HN⟩ := hrel
    by_cases hlt : m < l.length
    · obtain ⟨b, o, rfl, hcell⟩ := HC.out m hlt
      by_cases hx : l[m] = x
      · have h1 : (x == l[m]) = true := by simp [hx]
        have HF := Lib.hid (idx_found x l m hlt HN.out hx)
        clear hx
        go_wp2_with fail
        go_ret
        exact ⟨ret_int (by rw [← HR.out, HF.out]), rfl⟩
      · have h1 : (x == l[m]) = false := by simp [Ne.symm hx]
        have HX := Lib.hid hx
        clear hx
        go_wp2_with fail
        go_round
        case rel =>
          refine ⟨m + 1, by omega, by go_num, fun j hj hjl => ?_⟩
          by_cases e : j = m
          · subst e; exact HX.out
          · exact HN.out j (by omega) hjl
        case measure => simp [intOf]; omega
    · have HF := Lib.hid (idx_none x l (fun j hj hjl => HN.out j (by omega) hjl))
      go_wp2_with fail
      go_ret
      exact ⟨ret_int (by rw [← HR.out, HF.out]), rfl⟩

theorem idx_ge (x : Int) : ∀ (l : List Int) (i : Int), 0 ≤ i → (0 ≤ idx x l i ↔ x ∈ l)
  | [], i, h => by simp [idx]
  | y :: ys, i, h => by
    rw [idx]
    by_cases e : y = x
    · rw [if_pos e]; simp [e, h]
    · rw [if_neg e, idx_ge x ys (i + 1) (by omega)]; simp [Ne.symm e]

theorem contains_c (a : Option Addr) (c : Nat) (l : List Int) (x : Int) (w : World) (hl : l.length ≤ 9223372036854775807)
    (hc : ∀ j (h : j < l.length), ∃ b o, a = some ⟨b, o, none⟩ ∧ w.cell? ⟨b, o + j, none⟩ = some (.int .i64 l[j])) :
    Calls Try.prog 29 #[.slice a l.length c, .int .i64 x] w fun e w' => e = .returned (.bool (decide (x ∈ l))) ∧ w = w' := by
  have HC := Lib.hid hc
  have HI := Lib.hid (idx_ge x l 0 (by omega))
  clear hc
  go_enter Try.func29, Try.ntmps29
  go_wp2_with (go_at_call 44; refine (index_c _ _ _ _ _ hl HC.out).mono ?_; rintro e w1 ⟨rfl, rfl⟩)
  go_ret
  exact ⟨ret_bool (by simp [HI.out]), rfl⟩

def nodesI (n : Int) : Int := min (max n 1) 7
theorem nodesI_le (n : Int) : 1 ≤ nodesI n ∧ nodesI n ≤ 7 := by unfold nodesI; omega
theorem nodes2_c (n : Int) (w : World) : Calls Try.prog 55 #[.int .i64 n] w fun e w' => e = .returned (.int .i64 (nodesI n)) ∧ w = w' := by
  rcases (show n < 1 ∨ 7 < n ∨ (1 ≤ n ∧ n ≤ 7) by omega) with h | h | h
  all_goals
    go_enter Try.func55, Try.ntmps55
    go_wp2_with fail
    go_ret
    exact ⟨ret_int (by unfold nodesI; omega), rfl⟩
theorem need2_c (n : Int) (w : World) : Calls Try.prog 46 #[.int .i64 n] w fun e w' => e = .returned (.int .i64 (nodesI n / 2 + 1)) ∧ w = w' := by
  obtain ⟨h1, h2⟩ := nodesI_le n
  go_enter Try.func46, Try.ntmps46
  go_wp2_with (go_at_call 55; refine (nodes2_c _ _).mono ?_; rintro e w1 ⟨rfl, rfl⟩)
  go_ret
  exact ⟨rfl, rfl⟩
theorem nodes1_c (n : Int) (w : World) : Calls Try.prog 33 #[.int .i64 n] w fun e w' => e = .returned (.int .i64 (nodesI n)) ∧ w = w' := by
  rcases (show n < 1 ∨ 7 < n ∨ (1 ≤ n ∧ n ≤ 7) by omega) with h | h | h
  all_goals
    go_enter Try.func33, Try.ntmps33
    go_wp2_with fail
    go_ret
    exact ⟨ret_int (by unfold nodesI; omega), rfl⟩
theorem need1_c (n : Int) (w : World) : Calls Try.prog 18 #[.int .i64 n] w fun e w' => e = .returned (.int .i64 (nodesI n / 2 + 1)) ∧ w = w' := by
  obtain ⟨h1, h2⟩ := nodesI_le n
  go_enter Try.func18, Try.ntmps18
  go_wp2_with (go_at_call 33; refine (nodes1_c _ _).mono ?_; rintro e w1 ⟨rfl, rfl⟩)
  go_ret
  exact ⟨rfl, rfl⟩

end Go.Proofs.Ytbncfpbaifnikaa
