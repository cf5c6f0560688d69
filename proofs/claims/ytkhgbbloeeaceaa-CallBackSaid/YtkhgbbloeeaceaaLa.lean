/- The plain law: what is put is read back, cleaned. -/
import Derived.Test.YtkhgbbloeeaceaaRg
namespace Go.Proofs.Ytkhgbbloeeaceaa
open Go Go.RowKit
set_option maxRecDepth 16000

theorem beN_append (a b : List Int) : beN (a ++ b) = beN a * 256 ^ b.length + beN b := by
  have key : ∀ (b : List Int) (n : Nat), b.foldl (fun v c => v * 256 + c.toNat) n = n * 256 ^ b.length + b.foldl (fun v c => v * 256 + c.toNat) 0 := by
    intro b
    induction b with
    | nil => intro n; simp
    | cons c b ih =>
      intro n
      rw [List.foldl_cons, ih, List.foldl_cons, ih (0 * 256 + c.toNat), List.length_cons, Nat.pow_succ]
      simp only [Nat.zero_mul, Nat.zero_add, Nat.add_mul]
      have : n * 256 * 256 ^ b.length = n * (256 ^ b.length * 256) := by rw [Nat.mul_assoc, Nat.mul_comm 256]
      omega
  unfold beN
  rw [List.foldl_append, key b]
theorem beN_beB (v : Nat) : ∀ k, beN (beB v k) = v % 256 ^ k
  | 0 => by simp [beB, beN, Nat.mod_one]
  | k + 1 => by
    have h := beN_append [((v / 256 ^ k % 256 : Nat) : Int)] (beB v k)
    rw [List.singleton_append] at h
    rw [beB, h, beN_beB v k, beB_length]
    have e : beN [((v / 256 ^ k % 256 : Nat) : Int)] = v / 256 ^ k % 256 := by
      generalize v / 256 ^ k % 256 = x
      simp [beN]
    rw [e, Nat.pow_succ, Nat.mod_mul, Nat.mul_comm]
    omega
theorem take_beB (v k : Nat) (m : List Int) : (beB v k ++ m).take k = beB v k := by
  conv => lhs; arg 1; rw [← beB_length v k]
  exact List.take_left
theorem drop_beB (v k : Nat) (m : List Int) : (beB v k ++ m).drop k = m := by
  conv => lhs; arg 1; rw [← beB_length v k]
  exact List.drop_left
theorem i64N_u64N {i : Int} (h : (Lit.int .i64 i).wf = true) : i64N (u64N i) = i := by
  simp [Lit.wf, IntKind.min, IntKind.max, IntKind.signed, IntKind.bits] at h
  unfold i64N u64N wrap64
  omega
theorem rtext_put {s : ByteArray} {most : Int} (m : List Int) (h : s.size ≤ most) (h2 : s.size ≤ 65535) : rtext (beB s.size 2 ++ strI s ++ m) most = (s, 2 + (s.size : Int), 0) := by
  have e : beN (beB s.size 2) = s.size := by rw [beN_beB]; exact Nat.mod_eq_of_lt (by omega)
  have e1 : (beB s.size 2 ++ strI s ++ m).take 2 = beB s.size 2 := by rw [List.append_assoc]; exact take_beB _ _ _
  have e2 : (beB s.size 2 ++ strI s ++ m).drop 2 = strI s ++ m := by rw [List.append_assoc]; exact drop_beB _ _ _
  unfold rtext
  rw [e1, e2, e]
  have hlen : (beB s.size 2 ++ strI s ++ m).length = 2 + s.size + m.length := by simp [beB_length, strI_length]; omega
  have e3 : (strI s ++ m).take s.size = strI s := by
    conv => lhs; arg 1; rw [← strI_length s]
    exact List.take_left
  rw [if_neg (by omega), if_neg (by omega), e3, txtB_strI]

/-- A value's parts are what memory can hold. -/
inductive V.Ok : V → Prop where
  | mk (k i f s l) (hi : (Lit.int .i64 i).wf = true) (hf : f < 2 ^ 64) (hl : ∀ x ∈ l, V.Ok x) : V.Ok (.mk k i f s l)
theorem V.Ok.parts {k i f s l} (h : V.Ok (.mk k i f s l)) : (Lit.int .i64 i).wf = true ∧ f < 2 ^ 64 ∧ ∀ x ∈ l, V.Ok x := by
  cases h; exact ⟨by assumption, by assumption, by assumption⟩
theorem VIn.ok {D : Nat → Prop} {w : World} (t : V) : ∀ {sl}, VIn D w t sl → V.Ok t := by
  induction t using V.induct with
  | h k i f s l ih =>
  intro sl h
  obtain ⟨_, hi, hf, _, _, a, c, _, _, _, _, he⟩ := h.parts
  refine .mk k i f s l hi hf (fun x hx => ?_)
  obtain ⟨b, o, _, he⟩ := he.resolve_left (fun e => by rw [e] at hx; cases hx)
  obtain ⟨j, hj, rfl⟩ := List.getElem_of_mem hx
  obtain ⟨_, sa, sc, _, _, _, _, _, hv⟩ := he.get hj
  exact ih _ (List.getElem_mem hj) hv

theorem rd_bytes (t : V) : ∀ (d : Nat) (m : List Int), V.Ok t → t.odd = false → t.great d = false → rd true (d + 1) (t.bytes ++ m) = some (t.clean, t.bytes.length) := by
  induction t using V.induct with
  | h k i f s l ih =>
  intro d m hok ho hg
  obtain ⟨hi, hf, hol⟩ := hok.parts
  rw [V.odd_mk] at ho
  rw [V.great_mk] at hg
  rw [V.bytes_mk, V.clean_mk, List.cons_append, rd_cons]
  have hk : ¬(k < 0 ∨ 4 < k) := fun h => by rw [if_pos h] at ho; cases ho
  rw [if_neg hk] at ho
  rcases (show k = 0 ∨ k = 1 ∨ k = 2 ∨ k = 3 ∨ k = 4 by omega) with rfl | rfl | rfl | rfl | rfl
  · simp
  · simp only [show ¬ (1 : Int) = 0 by omega, if_true, if_false, take_beB, List.length_append, beB_length]
    rw [if_neg (by omega), beN_beB, Nat.mod_eq_of_lt (u64N_lt i), i64N_u64N hi]
    simp [beB_length]
  · simp only [show ¬ (2 : Int) = 0 by omega, show ¬ (2 : Int) = 1 by omega, if_true, if_false, take_beB, List.length_append, beB_length]
    rw [if_neg (by omega), beN_beB, Nat.mod_eq_of_lt (canonN_lt hf), if_pos (canonN_twice f)]
    simp [beB_length]
  · simp only [show ¬ (3 : Int) = 0 by omega, show ¬ (3 : Int) = 1 by omega, show ¬ (3 : Int) = 2 by omega, if_true, if_false] at hg ⊢
    have hs : ¬ 256 < s.size := by simpa using hg
    rw [rtext_put m (by omega) (by omega)]
    simp [beB_length, strI_length]
    omega
  · simp only [show ¬ (4 : Int) = 0 by omega, show ¬ (4 : Int) = 1 by omega, show ¬ (4 : Int) = 2 by omega, show ¬ (4 : Int) = 3 by omega, if_true, if_false] at hg ho ⊢
    have hne : ¬ (64 < l.length ∨ d = 0) := fun h => by rw [if_pos h] at hg; cases hg
    rw [if_neg hne, V.greats_any] at hg
    rw [V.odds_any] at ho
    obtain ⟨e, rfl⟩ : ∃ e, d = e + 1 := ⟨d - 1, by omega⟩
    simp only [Nat.add_sub_cancel] at hg
    rw [if_neg (by omega)]
    have hmod : (l.length : Int) % 256 = l.length := by omega
    rw [hmod]
    simp only [List.cons_append]
    rw [if_neg (by omega)]
    have key : ∀ (l' : List V), (∀ x ∈ l', x ∈ l) → ∀ m, rdItems (rd true (e + 1)) l'.length (V.bytess l' ++ m) = some (V.cleans l', (V.bytess l').length) := by
      intro l'
      induction l' with
      | nil => intro _ m; simp [rdItems, V.cleans]
      | cons x xs ihl =>
        intro hx m
        have hxl := hx x (by simp)
        rw [List.length_cons, V.bytess_cons, rdItems, List.append_assoc,
          ih x hxl e (V.bytess xs ++ m) (hol x hxl) (by simpa using List.any_eq_false.1 ho x hxl) (by simpa using List.any_eq_false.1 hg x hxl)]
        simp only [List.drop_left]
        rw [ihl (fun y hy => hx y (by simp [hy])) m]
        simp only
        rw [V.cleans, List.length_append]
    rw [show ((l.length : Int)).toNat = l.length by omega, key l (fun _ h => h) m]
    simp
    omega

/-- Cleaned, a value is as great, and as right. -/
theorem V.clean_same (t : V) : t.odd = false → t.clean.odd = false ∧ (∀ d, t.clean.great d = t.great d) ∧ t.clean.size = t.size ∧ t.clean.clean = t.clean := by
  induction t using V.induct with
  | h k i f s l ih =>
  intro ho
  rw [V.odd_mk] at ho
  have hk : ¬(k < 0 ∨ 4 < k) := fun h => by rw [if_pos h] at ho; cases ho
  rw [if_neg hk] at ho
  rcases (show k = 0 ∨ k = 1 ∨ k = 2 ∨ k = 3 ∨ k = 4 by omega) with rfl | rfl | rfl | rfl | rfl
  · rw [V.clean_mk]; simp [V.nil, V.odd_mk, V.great_mk, V.size_mk, V.clean_mk]
  · rw [V.clean_mk]; simp [V.int, V.odd_mk, V.great_mk, V.size_mk, V.clean_mk]
  · rw [V.clean_mk]; simp [V.flt, V.odd_mk, V.great_mk, V.size_mk, V.clean_mk, canonN_twice]
  · rw [V.clean_mk]; simp [V.txt, V.odd_mk, V.great_mk, V.size_mk, V.clean_mk]
  · rw [if_pos rfl, V.odds_any] at ho
    have hl : ∀ x ∈ l, x.odd = false := fun x hx => by simpa using List.any_eq_false.1 ho x hx
    have h1 := fun x hx => ih x hx (hl x hx)
    rw [V.clean_mk]
    simp only [show ¬ (4 : Int) = 1 by omega, show ¬ (4 : Int) = 2 by omega, show ¬ (4 : Int) = 3 by omega, if_true, if_false, V.lst, V.cleans_map]
    refine ⟨?_, fun d => ?_, ?_, ?_⟩
    · rw [V.odd_mk, if_neg (by omega), if_pos rfl, V.odds_any, List.any_map]
      exact List.any_eq_false.2 (fun x hx => by simp [(h1 x hx).1])
    · rw [V.great_mk, V.great_mk]
      simp only [show ¬ (4 : Int) = 3 by omega, if_true, if_false, List.length_map, V.greats_any, List.any_map]
      split
      · rfl
      · rw [Bool.eq_iff_iff, List.any_eq_true, List.any_eq_true]
        exact ⟨fun ⟨x, hx, h⟩ => ⟨x, hx, by rw [← (h1 x hx).2.1]; exact h⟩, fun ⟨x, hx, h⟩ => ⟨x, hx, by show x.clean.great _ = true; rw [(h1 x hx).2.1]; exact h⟩⟩
    · rw [V.size_mk, V.size_mk]
      simp only [show ¬ ((4 : Int) = 1 ∨ (4 : Int) = 2) by omega, show ¬ (4 : Int) = 3 by omega, if_true, if_false]
      have : ∀ l' : List V, (∀ x ∈ l', x ∈ l) → V.sizes (l'.map V.clean) = V.sizes l' := by
        intro l'
        induction l' with
        | nil => intro _; rfl
        | cons x xs ihl => intro hx; rw [List.map_cons, V.sizes_cons, V.sizes_cons, (h1 x (hx x (by simp))).2.2.1, ihl (fun y hy => hx y (by simp [hy]))]
      rw [this l (fun _ h => h)]
    · rw [V.clean_mk]
      simp only [show ¬ (4 : Int) = 1 by omega, show ¬ (4 : Int) = 2 by omega, show ¬ (4 : Int) = 3 by omega, if_true, if_false, V.lst, V.cleans_map, List.map_map]
      congr 1
      exact List.map_congr_left (fun x hx => (h1 x hx).2.2.2)
theorem V.clean_check {t : V} (h : t.check = 0) : t.clean.check = 0 := by
  have hz := V.check_zero h
  have hc := V.clean_same t hz.1
  unfold V.check at h ⊢
  rw [hc.1, hc.2.1, hc.2.2.1]
  rw [hz.1] at h
  exact h
/-- What is put is read back, cleaned. -/
theorem vread_put {t : V} (hok : V.Ok t) (h : t.check = 0) (m : List Int) : vread (rd true 9 (t.bytes ++ m)) = (t.clean, (t.bytes.length : Int), 0) := by
  have hz := V.check_zero h
  rw [rd_bytes t 8 m hok hz.1 hz.2.1]
  unfold vread
  simp only
  rw [if_pos (V.clean_check h)]
end Go.Proofs.Ytkhgbbloeeaceaa
