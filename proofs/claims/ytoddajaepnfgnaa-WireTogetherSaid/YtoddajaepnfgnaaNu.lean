/- WireNumbers: the walk. -/
import Derived.Test.YtoddajaepnfgnaaLb
import Derived.Test.YtoddajaepnfgnaaHh
namespace Go.Proofs.Ytoddajaepnfgnaa
open Go Go.RowKit
set_option maxRecDepth 16000

/-- What is appended to a full input slice leaves all below. -/
theorem ap_in {w w' : World} {base : Nat} {a : Option Addr} {n c : Nat} {sl' : Value} {zs : List Int} (hp : ∀ p, a = some p → p.block < base) (h : Ap w w' base (.slice a n c) sl' zs) : Below w.heap.size w w' := by
  have hob : obk base (.slice a n c) = none := by
    cases ho : obk base (.slice a n c) with
    | none => rfl
    | some q =>
      obtain ⟨e1, e2⟩ := obk_some.1 ho
      cases a with
      | none => cases e1
      | some p => have := hp p rfl; have e3 : p.block = q := Option.some.inj e1; omega
  have hg := h.grew
  rw [hob] at hg
  exact ⟨hg.os, hg.tape, hg.output, hg.size, fun q hq => hg.block q hq (by simp)⟩
theorem strI_byt (s : ByteArray) : Byt (strI s) := by
  intro z hz
  simp only [strI, List.mem_map] at hz
  obtain ⟨b, _, rfl⟩ := hz
  have := b.toNat_lt
  omega
theorem ptext_byt {zs : List Int} (hz : Byt zs) (s : ByteArray) (m : Int) : Byt (ptext zs s m).1 := by
  unfold ptext
  split
  · intro z hz; cases hz
  · exact (hz.append (beB_byt _ _)).append (strI_byt s)
theorem ptext_len (zs : List Int) (s : ByteArray) (m : Int) : (ptext zs s m).1.length ≤ zs.length + 2 + s.size := by
  unfold ptext
  split
  · simp
  · simp [beB_length, strI_length]; omega
theorem wireNumbers_long (a : Option Addr) (c : Nat) (zs : List Int) (u : Nat) (n : Int) (s : ByteArray) (most : Int) (w : World)
    (hl : zs.length ≤ c ∧ c ≤ 9223372036854775807) (hc : a = none → c = 0) (hz : BIn w a zs) (hp : ∀ p, a = some p → p.block < w.heap.size) (hu : u < 2 ^ 64) (h2 : (100 : Int) < zs.length) :
    Calls Try.prog 5 #[.slice a zs.length c, .int .u64 u, .int .i64 n, .string s, .int .i64 most] w fun e w' => e = .returned (.bool true) ∧ Below w.heap.size w w' := by
  have HZ := Lib.hid hz
  have HP := Lib.hid hp
  have HC := Lib.hid hc
  clear hz hp hc
  go_enter Try.func5, Try.ntmps5
  go_wp2_with fail
  refine (known3_c _).mono ?_
  rintro e w1 ⟨rfl, hb1⟩
  have HB1 := Lib.hid hb1
  clear hb1
  go_wp2_with fail
  go_ret
  exact ⟨rfl, HB1.out⟩

theorem wireNumbers_long2 (a : Option Addr) (c : Nat) (zs : List Int) (u : Nat) (n : Int) (s : ByteArray) (most : Int) (w : World)
    (hl : zs.length ≤ c ∧ c ≤ 9223372036854775807) (hc : a = none → c = 0) (hz : BIn w a zs) (hp : ∀ p, a = some p → p.block < w.heap.size) (hu : u < 2 ^ 64) (h2 : (zs.length : Int) ≤ 100) (h3 : (300 : Int) < s.size) :
    Calls Try.prog 5 #[.slice a zs.length c, .int .u64 u, .int .i64 n, .string s, .int .i64 most] w fun e w' => e = .returned (.bool true) ∧ Below w.heap.size w w' := by
  have HZ := Lib.hid hz
  have HP := Lib.hid hp
  have HC := Lib.hid hc
  clear hz hp hc
  go_enter Try.func5, Try.ntmps5
  go_wp2_with fail
  refine (known3_c _).mono ?_
  rintro e w1 ⟨rfl, hb1⟩
  have HB1 := Lib.hid hb1
  clear hb1
  go_wp2_with fail
  go_ret
  exact ⟨rfl, HB1.out⟩

set_option maxHeartbeats 4000000 in
theorem wireNumbers_main (a : Option Addr) (c : Nat) (zs : List Int) (u : Nat) (n : Int) (s : ByteArray) (most : Int) (w : World)
    (hl : zs.length ≤ c ∧ c ≤ 9223372036854775807) (hc : a = none → c = 0) (hz : BIn w a zs) (hp : ∀ p, a = some p → p.block < w.heap.size) (hu : u < 2 ^ 64) (h2 : (zs.length : Int) ≤ 100) (h3 : (s.size : Int) ≤ 300) :
    Calls Try.prog 5 #[.slice a zs.length c, .int .u64 u, .int .i64 n, .string s, .int .i64 most] w fun e w' => e = .returned (.bool true) ∧ Below w.heap.size w w' := by
  have HZ := Lib.hid hz
  have HP := Lib.hid hp
  have HC := Lib.hid hc
  clear hz hp hc
  go_enter Try.func5, Try.ntmps5
  go_wp2_with fail
  refine (known3_c _).mono ?_
  rintro e w1 ⟨rfl, hb1⟩
  have HB1 := Lib.hid hb1
  clear hb1
  go_wp2_with fail
  refine (putU2_c w.heap.size a c zs u hu n w1 (HZ.out.below HB1.out) HC.out hl.1 HB1.out.size (by omega)).mono ?_
  rintro e w2 ⟨sl2, rfl, ho2, hb2, _⟩
  have HYB := Lib.hid (show Byt (zs ++ beB u (nOf n)) ∧ (zs ++ beB u (nOf n)).length ≤ 140737488355328 from ⟨HZ.out.byt.append (beB_byt _ _), by simp [beB_length]; unfold nOf; split <;> (try split) <;> omega⟩)
  obtain ⟨a3, c3, rfl, _, _, hbin3⟩ := (show Bs w2 w.heap.size sl2 _ from .inl ho2).binB HYB.out.1 HYB.out.2
  obtain ⟨ys, hys⟩ : ∃ ys, zs ++ beB u (nOf n) = ys := ⟨_, rfl⟩
  rw [hys] at hbin3 HYB ⊢
  obtain ⟨N, hN⟩ : ∃ N, ys.length = N := ⟨_, rfl⟩
  rw [hN]
  obtain ⟨tx, htx⟩ : ∃ tx, txtB ys = tx := ⟨_, rfl⟩
  have HYS := Lib.hid hys
  have HN := Lib.hid hN
  have HTX := Lib.hid htx
  have HB2 := Lib.hid (HB1.out.trans (hb2.mono HB1.out.size))
  have HC2 := Lib.hid hbin3
  clear ho2 hb2 hbin3 hys hN htx
  go_wp2_with fail
  refine (readU2_c a c zs n w2 hl (HZ.out.below HB2.out)).mono ?_
  rintro e w2' ⟨rfl, rfl⟩
  go_wp2_with fail
  refine (readU1_c a c zs n w2 (by omega) (HZ.out.below HB2.out)).mono ?_
  rintro e w2' ⟨rfl, rfl⟩
  generalize readU zs n = rr
  obtain ⟨r1, r2⟩ := rr
  have hsl := fun w => sub_full a zs.length c hl.1 w
  have hcv : ∀ w', (Below w.heap.size w w' ∧ BIn w' a3 ys) → (convert 22 9 (.slice a3 N c3)).run Try.prog w' = .ok (.string tx) w' := fun w' h => by rw [← HTX.out]; exact run_convert_bin w' a3 N c3 ys h.2 HN.out
  go_wp2_with fail
  refine wp_region_held_drew (S := fun w' => Below w.heap.size w w' ∧ BIn w' a3 ys) (by kernel_rfl) ⟨HB2.out.trans ((Below.refl w.heap.size w2).drew), HC2.out.below ((Below.refl _ w2).drew)⟩ (fun hT => ?_)
  refine H_take 0 hT rfl (by kernel_rfl) (by kernel_rfl) (by kernel_rfl) (fun _ _ _ h => h) (by rfl) (by (intro w' hw'; (try dsimp only at hw'); go_simp; try with_reducible rfl)) ?_
  try simp only [Act.put, List.setIfInBounds_toArray, List.set_cons_zero, List.set_cons_succ]
  refine H_take 1 hT rfl (by kernel_rfl) (by kernel_rfl) (by kernel_rfl) (fun _ _ _ h => h) (by rfl) (by (intro w' hw'; (try dsimp only at hw'); go_simp; try with_reducible rfl)) ?_
  try simp only [Act.put, List.setIfInBounds_toArray, List.set_cons_zero, List.set_cons_succ]
  refine H_take 2 hT rfl (by kernel_rfl) (by kernel_rfl) (by kernel_rfl) (fun _ _ _ h => h) (by rfl) (by (intro w' hw'; (try dsimp only at hw'); go_simp; try with_reducible rfl)) ?_
  try simp only [Act.put, List.setIfInBounds_toArray, List.set_cons_zero, List.set_cons_succ]
  refine H_take 3 hT rfl (by kernel_rfl) (by kernel_rfl) (by kernel_rfl) (fun _ _ _ h => h) (by rfl) (by (intro w' hw'; (try dsimp only at hw'); go_simp; try with_reducible rfl)) ?_
  try simp only [Act.put, List.setIfInBounds_toArray, List.set_cons_zero, List.set_cons_succ]
  refine H_take 4 hT rfl (by kernel_rfl) (by kernel_rfl) (by kernel_rfl) (fun _ _ _ h => h) (by rfl) (by (intro w' hw'; (try dsimp only at hw'); go_simp; try with_reducible rfl)) ?_
  try simp only [Act.put, List.setIfInBounds_toArray, List.set_cons_zero, List.set_cons_succ]
  refine H_take 5 hT rfl (by kernel_rfl) (by kernel_rfl) (by kernel_rfl) (fun _ _ _ h => h) (by rfl) (by (intro w' hw'; (try dsimp only at hw'); go_simp; try with_reducible rfl)) ?_
  try simp only [Act.put, List.setIfInBounds_toArray, List.set_cons_zero, List.set_cons_succ]
  refine H_take 6 hT rfl (by kernel_rfl) (by kernel_rfl) (by kernel_rfl) (fun _ _ _ h => h) (by rfl) (by (intro w' hw'; (try dsimp only at hw'); go_simp; try with_reducible rfl)) ?_
  try simp only [Act.put, List.setIfInBounds_toArray, List.set_cons_zero, List.set_cons_succ]
  refine H_take 7 hT rfl (by kernel_rfl) (by kernel_rfl) (by kernel_rfl) (fun _ _ _ h => h) (by rfl) (by (intro w' hw'; (try dsimp only at hw'); go_simp; try with_reducible rfl)) ?_
  try simp only [Act.put, List.setIfInBounds_toArray, List.set_cons_zero, List.set_cons_succ]
  refine H_take 8 hT rfl (by kernel_rfl) (by kernel_rfl) (by kernel_rfl) (fun _ _ _ h => h) (by rfl) (by (intro w' hw'; (try dsimp only at hw'); go_simp; try with_reducible rfl)) ?_
  try simp only [Act.put, List.setIfInBounds_toArray, List.set_cons_zero, List.set_cons_succ]
  refine H_take 9 hT rfl (by kernel_rfl) (by kernel_rfl) (by kernel_rfl) (fun _ _ _ h => h) (by rfl) (by (intro w' hw'; (try dsimp only at hw'); go_simp; try with_reducible rfl)) ?_
  try simp only [Act.put, List.setIfInBounds_toArray, List.set_cons_zero, List.set_cons_succ]
  refine H_one 10 rfl (by kernel_rfl) (fun K hK => ?_)
  rw [if_pos (by rfl)]
  go_simp
  refine (putU1_c w.heap.size (.slice a zs.length zs.length) zs u hu n _ (.inr ⟨a, rfl, HZ.out.below hT.1, fun p hp => Nat.lt_of_lt_of_le (HP.out p hp) hT.1.size⟩) hT.1.size (by omega)).mono ?_
  rintro e w3 ⟨sl3, rfl, hap3⟩
  rw [HYS.out] at hap3
  obtain ⟨a4, c4, rfl, _, _, hbin4⟩ := hap3.bs.binB HYB.out.1 HYB.out.2
  have hb3 := ap_in HP.out hap3
  have hcv4 := run_convert_bin w3 a4 N c4 ys hbin4 HN.out
  rw [HN.out, HTX.out] at *
  refine hK _ _ ⟨hT.1.trans (hb3.mono hT.1.size), hT.2.below hb3⟩ (fun hT4 => ?_)
  clear hK hT hap3 hb3 hbin4
  try simp only [Act.put, List.setIfInBounds_toArray, List.set_cons_zero, List.set_cons_succ]
  refine H_one 11 rfl (by kernel_rfl) (fun K hK => ?_)
  rw [if_pos (by rfl)]
  go_simp
  refine hK _ _ hT4 (fun hT5 => ?_)
  clear hK hcv4 hT4
  try simp only [Act.put, List.setIfInBounds_toArray, List.set_cons_zero, List.set_cons_succ]
  refine H_take 12 hT5 rfl (by kernel_rfl) (by kernel_rfl) (by kernel_rfl) (fun _ _ _ h => h) (by rfl) (by (intro w' hw'; (try dsimp only at hw'); go_simp; try with_reducible rfl)) ?_
  try simp only [Act.put, List.setIfInBounds_toArray, List.set_cons_zero, List.set_cons_succ]
  refine H_take 13 hT5 rfl (by kernel_rfl) (by kernel_rfl) (by kernel_rfl) (fun _ _ _ h => h) (by rfl) (by (intro w' hw'; (try dsimp only at hw'); go_simp; try with_reducible rfl)) ?_
  try simp only [Act.put, List.setIfInBounds_toArray, List.set_cons_zero, List.set_cons_succ]
  refine H_take 14 hT5 rfl (by kernel_rfl) (by kernel_rfl) (by kernel_rfl) (fun _ _ _ h => h) (by rfl) (by (intro w' hw'; (try dsimp only at hw'); go_simp; try with_reducible rfl)) ?_
  try simp only [Act.put, List.setIfInBounds_toArray, List.set_cons_zero, List.set_cons_succ]
  refine H_take 15 hT5 rfl (by kernel_rfl) (by kernel_rfl) (by kernel_rfl) (fun _ _ _ h => h) (by rfl) (by (intro w' hw'; (try dsimp only at hw'); go_simp; try with_reducible rfl)) ?_
  try simp only [Act.put, List.setIfInBounds_toArray, List.set_cons_zero, List.set_cons_succ]
  refine H_take 16 hT5 rfl (by kernel_rfl) (by kernel_rfl) (by kernel_rfl) (fun _ _ _ h => h) (by rfl) (by (intro w' hw'; (try dsimp only at hw'); go_simp; try with_reducible rfl)) ?_
  try simp only [Act.put, List.setIfInBounds_toArray, List.set_cons_zero, List.set_cons_succ]
  refine H_take 17 hT5 rfl (by kernel_rfl) (by kernel_rfl) (by kernel_rfl) (fun _ _ _ h => h) (by rfl) (by (intro w' hw'; (try dsimp only at hw'); go_simp; try with_reducible rfl)) ?_
  try simp only [Act.put, List.setIfInBounds_toArray, List.set_cons_zero, List.set_cons_succ]
  refine H_take 18 hT5 rfl (by kernel_rfl) (by kernel_rfl) (by kernel_rfl) (fun _ _ _ h => h) (by rfl) (by (intro w' hw'; (try dsimp only at hw'); go_simp; try with_reducible rfl)) ?_
  try simp only [Act.put, List.setIfInBounds_toArray, List.set_cons_zero, List.set_cons_succ]
  refine H_take 19 hT5 rfl (by kernel_rfl) (by kernel_rfl) (by kernel_rfl) (fun _ _ _ h => h) (by rfl) (by (intro w' hw'; (try dsimp only at hw'); go_simp; try with_reducible rfl)) ?_
  try simp only [Act.put, List.setIfInBounds_toArray, List.set_cons_zero, List.set_cons_succ]
  refine H_take 20 hT5 rfl (by kernel_rfl) (by kernel_rfl) (by kernel_rfl) (fun _ _ _ h => h) (by rfl) (by (intro w' hw'; (try dsimp only at hw'); go_simp; try with_reducible rfl)) ?_
  try simp only [Act.put, List.setIfInBounds_toArray, List.set_cons_zero, List.set_cons_succ]
  refine H_take 21 hT5 rfl (by kernel_rfl) (by kernel_rfl) (by kernel_rfl) (fun _ _ _ h => h) (by rfl) (by (intro w' hw'; (try dsimp only at hw'); go_simp; try with_reducible rfl)) ?_
  try simp only [Act.put, List.setIfInBounds_toArray, List.set_cons_zero, List.set_cons_succ]
  refine H_take 22 hT5 rfl (by kernel_rfl) (by kernel_rfl) (by kernel_rfl) (fun _ _ _ h => h) (by rfl) (by (intro w' hw'; (try dsimp only at hw'); go_simp; try with_reducible rfl)) ?_
  try simp only [Act.put, List.setIfInBounds_toArray, List.set_cons_zero, List.set_cons_succ]
  refine wpAnyH_done (by kernel_rfl) ?_ _
  have HB4 := Lib.hid hT5.1
  clear hT5 hsl hcv
  go_wp2_with fail
  have hbw5 : Below w.heap.size w (w3.alloc (.cells #[.int .i64 most, .int .i64 (most.tmod 300), .int .i64 300] 3)) := HB4.out.alloc HB4.out.size _
  have hrow : (w3.alloc (.cells #[.int .i64 most, .int .i64 (most.tmod 300), .int .i64 300] 3)).heap[w3.heap.size]? = some (.cells #[.int .i64 most, .int .i64 (most.tmod 300), .int .i64 300] 3) := block_alloc_at _ rfl
  generalize (w3.alloc (.cells #[.int .i64 most, .int .i64 (most.tmod 300), .int .i64 300] 3)) = w5 at *
  generalize w3.heap.size = vb at *
  generalize most.tmod 300 = m2 at *
  have HBW := Lib.hid (show Below w.heap.size w w5 from hbw5)
  have HR := Lib.hid hrow
  clear hbw5 hrow HB4 HB1 HB2 HC2
  go_loopw [85] (fun j wr => ∃ m : Nat, m ≤ 3 ∧ j = .int .i64 m ∧ Below w5.heap.size w5 wr) (fun j _ => 3 - (intOf j).toNat)
  case atStart => exact ⟨0, by omega, rfl, Below.refl _ _⟩
  case round =>
    obtain ⟨m, hm, rfl, hbr⟩ := hrel
    have HBR := Lib.hid (HBW.out.trans (hbr.mono HBW.out.size))
    have HB5 := Lib.hid hbr
    by_cases h : m = 3
    · subst h
      go_wp2_with fail
      go_ret
      exact ⟨rfl, HBR.out⟩
    have hm3 : m < 3 := by omega
    obtain ⟨mv, hmv⟩ : ∃ mv : Int, wr.cell? ⟨vb, m, none⟩ = some (.int .i64 mv) := by
      have hrr := block_below hbr HR.out
      rcases (show m = 0 ∨ m = 1 ∨ m = 2 by omega) with rfl | rfl | rfl
      · exact ⟨most, by simp [World.cell?, hrr]⟩
      · exact ⟨m2, by simp [World.cell?, hrr]⟩
      · exact ⟨300, by simp [World.cell?, hrr]⟩
    clear hbr hm
    have hsl := fun w => sub_full a zs.length c hl.1 w
    go_wp2_with fail
    refine (ptext2_c w.heap.size a c zs s mv wr (HZ.out.below HBR.out) HC.out hl.1 HBR.out.size (by omega) (by omega)).mono ?_
    rintro e w6 ⟨sl6, rfl, hbs6, hb6, _⟩
    have hPF : (ptext zs s mv = ([], 22)) ∨ ((s.size : Int) ≤ mv ∧ ptext zs s mv = (zs ++ beB s.size 2 ++ strI s, 0)) := by
      unfold ptext
      split
      · exact .inl rfl
      · exact .inr ⟨by omega, rfl⟩
    have hPB : Byt (ptext zs s mv).1 ∧ (ptext zs s mv).1.length ≤ 1000 := ⟨ptext_byt HZ.out.byt s mv, by have := ptext_len zs s mv; omega⟩
    obtain ⟨⟨ps, pe⟩, hpt⟩ : ∃ pr, ptext zs s mv = pr := ⟨_, rfl⟩
    rw [hpt] at hbs6 hPF hPB ⊢
    obtain ⟨a6, c6, rfl, hl6, hc6, hbin6⟩ := hbs6.binB hPB.1 (Nat.le_trans hPB.2 (by omega))
    dsimp only at hPB hl6 hc6 hbin6 ⊢
    obtain ⟨M, hM⟩ : ∃ M, ps.length = M := ⟨_, rfl⟩
    obtain ⟨tp, htp⟩ : ∃ tp, txtB ps = tp := ⟨_, rfl⟩
    rw [hM] at hl6 hPB ⊢
    have HPT := Lib.hid hpt
    have HPF := Lib.hid hPF
    have HPB := Lib.hid hPB
    have HM := Lib.hid hM
    have HTP := Lib.hid htp
    have HL6 := Lib.hid (And.intro hl6 hc6)
    have HBI6 := Lib.hid hbin6
    have HB6 := Lib.hid hb6
    clear hbs6 hbin6 hb6 hpt hPF hM htp hPB hl6 hc6
    go_wp2_with fail
    have hp1 := ptext1_c w.heap.size (.slice a zs.length zs.length) zs s mv w6 (.inr ⟨a, rfl, (HZ.out.below HBR.out).below HB6.out, fun p hp => Nat.lt_of_lt_of_le (HP.out p hp) (Nat.le_trans HBR.out.size HB6.out.size)⟩) (Nat.le_trans HBR.out.size HB6.out.size) (by omega) (by omega)
    rw [HPT.out] at hp1
    refine hp1.mono ?_
    rintro e w7 ⟨sl7, rfl, hap7⟩
    obtain ⟨a7, c7, rfl, _, _, hbin7⟩ := hap7.bs.binB HPB.out.1 (by have := HM.out; have := HPB.out.2; simp only at *; omega)
    dsimp only at hbin7 ⊢
    rw [HM.out]
    have hb7 := ap_in HP.out hap7
    have HB7 := Lib.hid hb7
    have hcv6 := run_convert_bin w7 a6 M c6 ps (HBI6.out.below hb7) HM.out
    have hcv7 := run_convert_bin w7 a7 M c7 ps hbin7 HM.out
    rw [HTP.out] at hcv6 hcv7
    have HZ7 := Lib.hid (((HZ.out.below HBR.out).below HB6.out).below hb7)
    clear hap7 hbin7 hb7 hp1
    go_wp2_with fail
    obtain ⟨⟨q1, q2, q3⟩, hq⟩ : ∃ q, rtext zs mv = q := ⟨_, rfl⟩
    have hr2 := rtext2_c a c zs mv w7 hl HZ7.out
    have hr1 := rtext1_c a c zs mv w7 hl HZ7.out
    rw [hq] at hr1 hr2
    refine hr2.mono ?_
    rintro e w7' ⟨rfl, rfl⟩
    go_wp2_with fail
    refine hr1.mono ?_
    rintro e w7' ⟨rfl, rfl⟩
    clear hr1 hr2 hq
    have HBE := Lib.hid ((HB5.out.trans (HB6.out.mono HB5.out.size)).trans (HB7.out.mono (Nat.le_trans HB5.out.size HB6.out.size)))
    by_cases hpe : pe = 0
    · have hPF := HPF.out
      simp only [Prod.mk.injEq] at hPF
      rcases hPF with ⟨_, h22⟩ | ⟨hms, hpz, _⟩
      · omega
      have hzl : zs.length ≤ M := by rw [← HM.out, hpz]; simp
      obtain ⟨a8, c8, ys8, hys8, hl8, hc8, hbin8, hsl8⟩ := sub_at a6 c6 ps zs.length (by rw [HM.out]; exact hzl) (by rw [HM.out]; exact HL6.out.1) HL6.out.2
      rw [HM.out] at hsl8
      have hyv : ys8 = beB s.size 2 ++ strI s ++ [] := by rw [hys8, hpz]; simp
      have e3 : rtext ys8 mv = (s, (s.size : Int) + 2, 0) := by rw [hyv, rtext_put [] hms (by omega)]; simp; omega
      have hrt3 := rtext2_c a8 c8 ys8 mv w7 hl8 (hbin8 _ (HBI6.out.below HB7.out))
      rw [e3] at hrt3
      clear hys8 hyv e3 hpz hbin8
      go_wp2_with fail
      refine hrt3.mono ?_
      rintro e w7' ⟨rfl, rfl⟩
      go_wp2_with fail
      go_roundw
      case rel => exact ⟨m + 1, by omega, by go_num, HBE.out⟩
      case measure => simp [intOf]; omega
    · go_wp2_with fail
      go_roundw
      case rel => exact ⟨m + 1, by omega, by go_num, HBE.out⟩
      case measure => simp [intOf]; omega

theorem wireNumbers_c (a : Option Addr) (c : Nat) (zs : List Int) (u : Nat) (n : Int) (s : ByteArray) (most : Int) (w : World)
    (hl : zs.length ≤ c ∧ c ≤ 9223372036854775807) (hc : a = none → c = 0) (hz : BIn w a zs) (hp : ∀ p, a = some p → p.block < w.heap.size) (hu : u < 2 ^ 64) :
    Calls Try.prog 5 #[.slice a zs.length c, .int .u64 u, .int .i64 n, .string s, .int .i64 most] w fun e w' => e = .returned (.bool true) ∧ Below w.heap.size w w' := by
  by_cases h2 : (zs.length : Int) ≤ 100
  · by_cases h3 : (s.size : Int) ≤ 300
    · exact wireNumbers_main a c zs u n s most w hl hc hz hp hu h2 h3
    · exact wireNumbers_long2 a c zs u n s most w hl hc hz hp hu h2 (by omega)
  · exact wireNumbers_long a c zs u n s most w hl hc hz hp hu (by omega)
end Go.Proofs.Ytoddajaepnfgnaa
