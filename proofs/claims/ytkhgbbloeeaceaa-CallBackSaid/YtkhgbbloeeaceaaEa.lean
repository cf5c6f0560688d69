/- Calls put: by the reference. -/
import Derived.Test.YtkhgbbloeeaceaaOa
import Derived.Test.YtkhgbbloeeaceaaPz
import Derived.Test.YtkhgbbloeeaceaaR
namespace Go.Proofs.Ytkhgbbloeeaceaa
open Go Go.RowKit
set_option maxRecDepth 16000

/-- An id's bytes. -/
def idB (c s n : Nat) : List Int := beB c 4 ++ beB s 4 ++ beB n 2
theorem idB_length (c s n : Nat) : (idB c s n).length = 10 := by simp [idB, beB_length]
theorem wrap_u64 (c : Nat) (h : c < 18446744073709551616) : IntKind.u64.wrap (c : Int) = c := by
  simp [IntKind.wrap, IntKind.bits, IntKind.signed]
  omega
theorem nOf4 : nOf 4 = 4 := by decide
/-- An id's three cells. -/
abbrev at3 (w : World) (b : Nat) (c s n : Int) : Prop := w.cell? ⟨b, 0, none⟩ = some (.int .u32 c) ∧ w.cell? ⟨b, 1, none⟩ = some (.int .u32 s) ∧ w.cell? ⟨b, 2, none⟩ = some (.int .u16 n)
theorem at3.keep {w w1 : World} (hb : Below w.heap.size w w1) {b c s n} (h : at3 w b c s n) : at3 w1 b c s n := ⟨keepc hb h.1, keepc hb h.2.1, keepc hb h.2.2⟩
theorem at3.grown {w w1 : World} {row} (hb : w.grownBy w1 row) {b c s n} (hne : row ≠ some b) (h : at3 w b c s n) : at3 w1 b c s n := by
  have hl := World.block_lt_of_cell? w _ h.1
  refine ⟨?_, ?_, ?_⟩
  · rw [hb.cell_far ⟨b, 0, none⟩ hl (fun e => hne e.symm)]; exact h.1
  · rw [hb.cell_far ⟨b, 1, none⟩ hl (fun e => hne e.symm)]; exact h.2.1
  · rw [hb.cell_far ⟨b, 2, none⟩ hl (fun e => hne e.symm)]; exact h.2.2
theorem at3.new {w : World} {c s n t} : at3 (w.alloc (.cells #[.int .u32 c, .int .u32 s, .int .u16 n] t)) w.heap.size c s n := by
  simp [at3]


theorem putId1_c (base : Nat) (sl : Value) (zs : List Int) (c s n : Nat) (w : World) (hi : c < 4294967296 ∧ s < 4294967296 ∧ n < 65536) (hb : Bs w base sl zs) (hbase : base ≤ w.heap.size) (hl : zs.length ≤ 140737488000000) :
    Calls Try.prog 29 #[sl, .agg #[.int .u32 c, .int .u32 s, .int .u16 n]] w (RetB w base sl (zs ++ idB c s n)) := by
  have HB := Lib.hid hb
  have HBB := Lib.hid (fun o => ((Below.refl w.heap.size w).alloc (Nat.le_refl _) o : Below w.heap.size w (w.alloc o)))
  have hw1 : IntKind.u64.wrap (c : Int) = c := wrap_u64 c (by omega)
  have hw2 : IntKind.u64.wrap (s : Int) = s := wrap_u64 s (by omega)
  have hw3 : IntKind.u64.wrap (n : Int) = n := wrap_u64 n (by omega)
  have HLT := Lib.hid hb.lt
  clear hb
  go_enter Try.func29, Try.ntmps29
  go_wp2_with fail
  have HT0 := Lib.hid (at3.new (w := w) (c := c) (s := s) (n := n) (t := 26))
  have HB0 := Lib.hid ((Ap.refl HB.out).below (HBB.out (.cells #[.int .u32 c, .int .u32 s, .int .u16 n] 26)))
  have hz0 : base ≤ (w.alloc (.cells #[.int .u32 c, .int .u32 s, .int .u16 n] 26)).heap.size := by simp; omega
  generalize w.alloc _ = w0 at *
  have HB1 := Lib.hid ((Ap.refl HB0.out.bs).below (Below.refl _ _).drew)
  have HZW := Lib.hid (World.block_lt_of_cell? w0 _ HT0.out.1)
  refine wp_region_held_drew (S := fun w' => at3 w' w.heap.size c s n) (by kernel_rfl) (HT0.out.keep (Below.refl _ _).drew) (fun hT => ?_)
  refine H_take 0 hT rfl (by kernel_rfl) (by kernel_rfl) (by kernel_rfl) (fun _ _ _ h => h) (by rfl) (by (intro w' hw'; (try dsimp only at hw'); go_simp; try with_reducible rfl)) ?_
  try simp only [Act.put, List.setIfInBounds_toArray, List.set_cons_zero, List.set_cons_succ]
  refine H_take 1 hT rfl (by kernel_rfl) (by kernel_rfl) (by kernel_rfl) (fun _ _ _ h => h) (by rfl) (by (intro w' hw'; (try dsimp only at hw'); go_simp; try with_reducible rfl)) ?_
  try simp only [Act.put, List.setIfInBounds_toArray, List.set_cons_zero, List.set_cons_succ]
  refine H_take 2 hT rfl (by kernel_rfl) (by kernel_rfl) (by kernel_rfl) (fun _ _ _ h => h) (by rfl) (by (intro w' hw'; (try dsimp only at hw'); go_simp; try with_reducible rfl)) ?_
  try simp only [Act.put, List.setIfInBounds_toArray, List.set_cons_zero, List.set_cons_succ]
  refine H_take 3 hT rfl (by kernel_rfl) (by kernel_rfl) (by kernel_rfl) (fun _ _ _ h => h) (by rfl) (by (intro w' hw'; (try dsimp only at hw'); go_simp; try with_reducible rfl)) ?_
  try simp only [Act.put, List.setIfInBounds_toArray, List.set_cons_zero, List.set_cons_succ]
  refine H_take 5 hT rfl (by kernel_rfl) (by kernel_rfl) (by kernel_rfl) (fun _ _ _ h => h) (by rfl) (by (intro w' hw'; (try dsimp only at hw'); go_simp; try with_reducible rfl)) ?_
  try simp only [Act.put, List.setIfInBounds_toArray, List.set_cons_zero, List.set_cons_succ]
  refine H_take 6 hT rfl (by kernel_rfl) (by kernel_rfl) (by kernel_rfl) (fun _ _ _ h => h) (by rfl) (by (intro w' hw'; (try dsimp only at hw'); go_simp; try with_reducible rfl)) ?_
  try simp only [Act.put, List.setIfInBounds_toArray, List.set_cons_zero, List.set_cons_succ]
  refine H_take 7 hT rfl (by kernel_rfl) (by kernel_rfl) (by kernel_rfl) (fun _ _ _ h => h) (by rfl) (by (intro w' hw'; (try dsimp only at hw'); go_simp; try with_reducible rfl)) ?_
  try simp only [Act.put, List.setIfInBounds_toArray, List.set_cons_zero, List.set_cons_succ]
  refine H_take 9 hT rfl (by kernel_rfl) (by kernel_rfl) (by kernel_rfl) (fun _ _ _ h => h) (by rfl) (by (intro w' hw'; (try dsimp only at hw'); go_simp; try with_reducible rfl)) ?_
  try simp only [Act.put, List.setIfInBounds_toArray, List.set_cons_zero, List.set_cons_succ]
  refine H_take 10 hT rfl (by kernel_rfl) (by kernel_rfl) (by kernel_rfl) (fun _ _ _ h => h) (by rfl) (by (intro w' hw'; (try dsimp only at hw'); go_simp; try with_reducible rfl)) ?_
  try simp only [Act.put, List.setIfInBounds_toArray, List.set_cons_zero, List.set_cons_succ]
  refine H_take 11 hT rfl (by kernel_rfl) (by kernel_rfl) (by kernel_rfl) (fun _ _ _ h => h) (by rfl) (by (intro w' hw'; (try dsimp only at hw'); go_simp; try with_reducible rfl)) ?_
  try simp only [Act.put, List.setIfInBounds_toArray, List.set_cons_zero, List.set_cons_succ]
  refine H_one 4 rfl (by kernel_rfl) (fun K hK => ?_)
  rw [if_pos (by rfl)]
  go_simp
  try simp only [hw1, hw2, hw3]
  refine (putU1_c base sl (zs) c (by omega) 4 _ HB1.out.bs (by first | exact hz0 | simpa using hz0) (by first | omega | (simp [beB_length]; omega))).mono ?_
  rintro e v0 ⟨sl0, rfl, hap0⟩
  rw [nOf4] at hap0
  have H0 := Lib.hid (HB1.out.trans hap0)
  have hz1 : base ≤ v0.heap.size := Nat.le_trans (by first | exact hz0 | simpa using hz0) hap0.grew.size
  refine hK _ _ (at3.grown hap0.grew (fun e => by
    rcases HB1.out.at_ _ (obk_some.1 e).1 with h | h
    · have := HLT.out _ h; omega
    · have : w.heap.size < w0.heap.size := HZW.out; omega) hT) (fun hT0 => ?_)
  clear hK hap0
  try simp only [Act.put, List.setIfInBounds_toArray, List.set_cons_zero, List.set_cons_succ]
  refine H_one 8 rfl (by kernel_rfl) (fun K hK => ?_)
  rw [if_pos (by rfl)]
  go_simp
  try simp only [hw1, hw2, hw3]
  refine (putU1_c base sl0 (zs ++ beB c 4) s (by omega) 4 _ H0.out.bs (by first | exact hz1 | simpa using hz1) (by first | omega | (simp [beB_length]; omega))).mono ?_
  rintro e v1 ⟨sl1, rfl, hap1⟩
  rw [nOf4] at hap1
  have H1 := Lib.hid (H0.out.trans hap1)
  have hz2 : base ≤ v1.heap.size := Nat.le_trans (by first | exact hz1 | simpa using hz1) hap1.grew.size
  refine hK _ _ (at3.grown hap1.grew (fun e => by
    rcases H0.out.at_ _ (obk_some.1 e).1 with h | h
    · have := HLT.out _ h; omega
    · have : w.heap.size < w0.heap.size := HZW.out; omega) hT0) (fun hT1 => ?_)
  clear hK hap1
  try simp only [Act.put, List.setIfInBounds_toArray, List.set_cons_zero, List.set_cons_succ]
  refine H_one 12 rfl (by kernel_rfl) (fun K hK => ?_)
  rw [if_pos (by rfl)]
  go_simp
  try simp only [hw1, hw2, hw3]
  refine (putU1_c base sl1 (zs ++ beB c 4 ++ beB s 4) n (by omega) 2 _ H1.out.bs (by first | exact hz2 | simpa using hz2) (by first | omega | (simp [beB_length]; omega))).mono ?_
  rintro e v2 ⟨sl2, rfl, hap2⟩
  rw [nOf2] at hap2
  have H2 := Lib.hid (H1.out.trans hap2)
  have hz3 : base ≤ v2.heap.size := Nat.le_trans (by first | exact hz2 | simpa using hz2) hap2.grew.size
  refine hK _ _ (at3.grown hap2.grew (fun e => by
    rcases H1.out.at_ _ (obk_some.1 e).1 with h | h
    · have := HLT.out _ h; omega
    · have : w.heap.size < w0.heap.size := HZW.out; omega) hT1) (fun hT2 => ?_)
  clear hK hap2
  try simp only [Act.put, List.setIfInBounds_toArray, List.set_cons_zero, List.set_cons_succ]
  refine H_take 13 hT2 rfl (by kernel_rfl) (by kernel_rfl) (by kernel_rfl) (fun _ _ _ h => h) (by rfl) (by (intro w' hw'; (try dsimp only at hw'); go_simp; try with_reducible rfl)) ?_
  try simp only [Act.put, List.setIfInBounds_toArray, List.set_cons_zero, List.set_cons_succ]
  refine wpAnyH_done (by kernel_rfl) ?_ _
  clear hT hT0 hT1 hT2
  go_wp2_with fail
  go_ret
  refine ⟨sl2, rfl, ?_⟩
  have := HB0.out.trans H2.out
  simpa [idB, List.append_assoc] using this

theorem putId2_c (base : Nat) (a : Option Addr) (ca : Nat) (zs : List Int) (c s n : Nat) (w : World) (hi : c < 4294967296 ∧ s < 4294967296 ∧ n < 65536) (hz : BIn w a zs) (hc : a = none → ca = 0) (hlc : zs.length ≤ ca) (hbase : base ≤ w.heap.size) (hl : zs.length ≤ 140737488000000) :
    Calls Try.prog 50 #[.slice a zs.length ca, .agg #[.int .u32 c, .int .u32 s, .int .u16 n]] w (RetN w base (zs ++ idB c s n)) := by
  have HZ := Lib.hid hz
  have HBY := Lib.hid hz.byt
  have HBB := Lib.hid (fun o => ((Below.refl w.heap.size w).alloc (Nat.le_refl _) o : Below w.heap.size w (w.alloc o)))
  have hw1 : IntKind.u64.wrap (c : Int) = c := wrap_u64 c (by omega)
  have hw2 : IntKind.u64.wrap (s : Int) = s := wrap_u64 s (by omega)
  have hw3 : IntKind.u64.wrap (n : Int) = n := wrap_u64 n (by omega)
  clear hz
  go_enter Try.func50, Try.ntmps50
  go_wp2_with fail
  have HT0 := Lib.hid (at3.new (w := w) (c := c) (s := s) (n := n) (t := 26))
  have HBO := Lib.hid (HBB.out (.cells #[.int .u32 c, .int .u32 s, .int .u16 n] 26))
  have hz0 : base ≤ (w.alloc (.cells #[.int .u32 c, .int .u32 s, .int .u16 n] 26)).heap.size := by simp; omega
  generalize w.alloc _ = w0 at *
  have HBD := Lib.hid ((Below.refl w0.heap.size w0).drew)
  have HZW := Lib.hid (show w.heap.size < w0.heap.size from World.block_lt_of_cell? w0 _ HT0.out.1)
  refine wp_region_held_drew (S := fun w' => at3 w' w.heap.size c s n) (by kernel_rfl) (HT0.out.keep (Below.refl _ _).drew) (fun hT => ?_)
  refine H_take 0 hT rfl (by kernel_rfl) (by kernel_rfl) (by kernel_rfl) (fun _ _ _ h => h) (by rfl) (by (intro w' hw'; (try dsimp only at hw'); go_simp; try with_reducible rfl)) ?_
  try simp only [Act.put, List.setIfInBounds_toArray, List.set_cons_zero, List.set_cons_succ]
  refine H_take 1 hT rfl (by kernel_rfl) (by kernel_rfl) (by kernel_rfl) (fun _ _ _ h => h) (by rfl) (by (intro w' hw'; (try dsimp only at hw'); go_simp; try with_reducible rfl)) ?_
  try simp only [Act.put, List.setIfInBounds_toArray, List.set_cons_zero, List.set_cons_succ]
  refine H_take 2 hT rfl (by kernel_rfl) (by kernel_rfl) (by kernel_rfl) (fun _ _ _ h => h) (by rfl) (by (intro w' hw'; (try dsimp only at hw'); go_simp; try with_reducible rfl)) ?_
  try simp only [Act.put, List.setIfInBounds_toArray, List.set_cons_zero, List.set_cons_succ]
  refine H_take 3 hT rfl (by kernel_rfl) (by kernel_rfl) (by kernel_rfl) (fun _ _ _ h => h) (by rfl) (by (intro w' hw'; (try dsimp only at hw'); go_simp; try with_reducible rfl)) ?_
  try simp only [Act.put, List.setIfInBounds_toArray, List.set_cons_zero, List.set_cons_succ]
  refine H_take 5 hT rfl (by kernel_rfl) (by kernel_rfl) (by kernel_rfl) (fun _ _ _ h => h) (by rfl) (by (intro w' hw'; (try dsimp only at hw'); go_simp; try with_reducible rfl)) ?_
  try simp only [Act.put, List.setIfInBounds_toArray, List.set_cons_zero, List.set_cons_succ]
  refine H_take 6 hT rfl (by kernel_rfl) (by kernel_rfl) (by kernel_rfl) (fun _ _ _ h => h) (by rfl) (by (intro w' hw'; (try dsimp only at hw'); go_simp; try with_reducible rfl)) ?_
  try simp only [Act.put, List.setIfInBounds_toArray, List.set_cons_zero, List.set_cons_succ]
  refine H_take 7 hT rfl (by kernel_rfl) (by kernel_rfl) (by kernel_rfl) (fun _ _ _ h => h) (by rfl) (by (intro w' hw'; (try dsimp only at hw'); go_simp; try with_reducible rfl)) ?_
  try simp only [Act.put, List.setIfInBounds_toArray, List.set_cons_zero, List.set_cons_succ]
  refine H_take 9 hT rfl (by kernel_rfl) (by kernel_rfl) (by kernel_rfl) (fun _ _ _ h => h) (by rfl) (by (intro w' hw'; (try dsimp only at hw'); go_simp; try with_reducible rfl)) ?_
  try simp only [Act.put, List.setIfInBounds_toArray, List.set_cons_zero, List.set_cons_succ]
  refine H_take 10 hT rfl (by kernel_rfl) (by kernel_rfl) (by kernel_rfl) (fun _ _ _ h => h) (by rfl) (by (intro w' hw'; (try dsimp only at hw'); go_simp; try with_reducible rfl)) ?_
  try simp only [Act.put, List.setIfInBounds_toArray, List.set_cons_zero, List.set_cons_succ]
  refine H_take 11 hT rfl (by kernel_rfl) (by kernel_rfl) (by kernel_rfl) (fun _ _ _ h => h) (by rfl) (by (intro w' hw'; (try dsimp only at hw'); go_simp; try with_reducible rfl)) ?_
  try simp only [Act.put, List.setIfInBounds_toArray, List.set_cons_zero, List.set_cons_succ]
  refine H_one 4 rfl (by kernel_rfl) (fun K hK => ?_)
  rw [if_pos (by rfl)]
  go_simp
  try simp only [hw1, hw2, hw3]
  refine (putU2_c base a ca zs c (by omega) 4 _ ((HZ.out.below HBO.out).below HBD.out) hc hlc (by first | exact hz0 | simpa using hz0) (by omega)).mono ?_
  rintro e v0 ⟨sl0, rfl, hown0, hbel0, hat0⟩
  rw [nOf4] at hown0
  have H0 := Lib.hid (And.intro (show Own v0 base sl0 (zs ++ beB c 4) from hown0) (And.intro (show Below w0.heap.size w0 v0 from HBD.out.trans hbel0) (show ∀ k, sl0.ownBlock = some k → w0.heap.size ≤ k from hat0)))
  refine hK _ _ (hT.keep hbel0) (fun hT0 => ?_)
  clear hK hown0 hbel0 hat0
  try simp only [Act.put, List.setIfInBounds_toArray, List.set_cons_zero, List.set_cons_succ]
  refine H_one 8 rfl (by kernel_rfl) (fun K hK => ?_)
  rw [if_pos (by rfl)]
  go_simp
  try simp only [hw1, hw2, hw3]
  refine (putU2_b base sl0 (zs ++ beB c 4) s (by omega) 4 _ (.inl H0.out.1) (HBY.out.append (beB_byt c 4)) (Nat.le_trans hz0 H0.out.2.1.size) (by simp [beB_length]; omega)).mono ?_
  rintro e v1 ⟨sl1, rfl, hap1⟩
  rw [nOf4] at hap1
  have H1 := Lib.hid (And.intro (hap1.ow ⟨_, H0.out.1⟩) (hap1.fresh H0.out.2.1 H0.out.2.2).2)
  refine hK _ _ (at3.grown hap1.grew (fun e => by have := H0.out.2.2 _ (obk_some.1 e).1; have := HZW.out; omega) hT0) (fun hT1 => ?_)
  clear hK hap1
  try simp only [Act.put, List.setIfInBounds_toArray, List.set_cons_zero, List.set_cons_succ]
  refine H_one 12 rfl (by kernel_rfl) (fun K hK => ?_)
  rw [if_pos (by rfl)]
  go_simp
  try simp only [hw1, hw2, hw3]
  refine (putU2_b base sl1 (zs ++ beB c 4 ++ beB s 4) n (by omega) 2 _ (.inl H1.out.1) ((HBY.out.append (beB_byt c 4)).append (beB_byt s 4)) (Nat.le_trans hz0 H1.out.2.1.size) (by simp [beB_length]; omega)).mono ?_
  rintro e v2 ⟨sl2, rfl, hap2⟩
  rw [nOf2] at hap2
  have H2 := Lib.hid (And.intro (hap2.ow ⟨_, H1.out.1⟩) (hap2.fresh H1.out.2.1 H1.out.2.2).2)
  refine hK _ _ (at3.grown hap2.grew (fun e => by have := H1.out.2.2 _ (obk_some.1 e).1; have := HZW.out; omega) hT1) (fun hT2 => ?_)
  clear hK hap2
  try simp only [Act.put, List.setIfInBounds_toArray, List.set_cons_zero, List.set_cons_succ]
  refine H_take 13 hT2 rfl (by kernel_rfl) (by kernel_rfl) (by kernel_rfl) (fun _ _ _ h => h) (by rfl) (by (intro w' hw'; (try dsimp only at hw'); go_simp; try with_reducible rfl)) ?_
  try simp only [Act.put, List.setIfInBounds_toArray, List.set_cons_zero, List.set_cons_succ]
  refine wpAnyH_done (by kernel_rfl) ?_ _
  clear hT hT0 hT1 hT2
  go_wp2_with fail
  go_ret
  refine ⟨sl2, rfl, ?_, HBO.out.trans (H2.out.2.1.mono HBO.out.size), fun k hk => Nat.le_trans HBO.out.size (H2.out.2.2 k hk)⟩
  have := H2.out.1
  simpa [idB, List.append_assoc] using this
end Go.Proofs.Ytkhgbbloeeaceaa
namespace Go.Proofs.Ytkhgbbloeeaceaa
open Go Go.RowKit

/-- The first fault of a list's values. -/
def chk : List V → Int
  | [] => 0
  | t :: ts => if t.check = 0 then chk ts else t.check
theorem chk_take : ∀ (l : List V) (m : Nat) (h : m < l.length), chk (l.take m) = 0 → chk (l.take (m + 1)) = l[m].check
  | t :: ts, 0, h, _ => by simp only [List.take_succ_cons, List.take_zero, List.getElem_cons_zero, chk]; split <;> simp_all
  | t :: ts, m + 1, h, hc => by
    rw [List.take_succ_cons, chk] at hc ⊢
    by_cases h0 : t.check = 0
    · rw [if_pos h0] at hc ⊢
      rw [List.getElem_cons_succ]
      exact chk_take ts m (by simpa using h) hc
    · rw [if_neg h0] at hc; exact absurd hc h0
theorem chk_stop : ∀ (l : List V) (m : Nat), chk (l.take m) ≠ 0 → chk l = chk (l.take m)
  | [], m, h => by simp
  | t :: ts, 0, h => by simp [chk] at h
  | t :: ts, m + 1, h => by
    rw [List.take_succ_cons, chk] at h ⊢
    rw [chk]
    by_cases h0 : t.check = 0
    · rw [if_pos h0] at h ⊢; rw [if_pos h0]; exact chk_stop ts m h
    · rw [if_neg h0, if_neg h0]
theorem chk_mem : ∀ {l : List V}, chk l = 0 → ∀ t ∈ l, t.check = 0
  | t :: ts, h, x, hx => by
    rw [chk] at h
    by_cases h0 : t.check = 0
    · rw [if_pos h0] at h
      rcases List.mem_cons.1 hx with rfl | hx
      · exact h0
      · exact chk_mem h x hx
    · rw [if_neg h0] at h; exact absurd h h0
def txtP (s : ByteArray) : List Int := beB s.size 2 ++ strI s
theorem txtP_length (s : ByteArray) : (txtP s).length = 2 + s.size := by simp [txtP, beB_length, strI_length]
/-- A call's bytes. -/
def obytes (c s n : Nat) (g m : ByteArray) (l : List V) : List Int := idB c s n ++ (txtP g ++ (txtP m ++ ((l.length : Int) :: l.flatMap V.bytes)))
/-- What Put tells of a call. -/
def oput (zs : List Int) (c s n : Nat) (g m : ByteArray) (l : List V) : List Int × Int :=
  if 16 < l.length ∨ 32 < g.size ∨ 32 < m.size then ([], 22) else if chk l = 0 then (zs ++ obytes c s n g m l, 0) else ([], chk l)
theorem oput_big {zs c s n g m l} (h : 16 < l.length ∨ 32 < g.size ∨ 32 < m.size) : oput zs c s n g m l = ([], 22) := by unfold oput; rw [if_pos h]
theorem oput_no {zs c s n g m} {l : List V} (h : ¬ (16 < l.length ∨ 32 < g.size ∨ 32 < m.size)) {k : Nat} {e : Int} (hk : chk (l.take k) = e) (he : e ≠ 0) : oput zs c s n g m l = ([], e) := by
  unfold oput
  rw [if_neg h, chk_stop l k (by rw [hk]; exact he), hk, if_neg he]
theorem oput_yes {zs c s n g m l} (h : ¬ (16 < l.length ∨ 32 < g.size ∨ 32 < m.size)) (hk : chk l = 0) : oput zs c s n g m l = (zs ++ idB c s n ++ beB g.size 2 ++ strI g ++ beB m.size 2 ++ strI m ++ [(l.length : Int)] ++ l.flatMap V.bytes, 0) := by
  unfold oput
  rw [if_neg h, if_pos hk]
  simp [obytes, txtP, List.append_assoc]
theorem ptext32 {zs : List Int} {s : ByteArray} (h : s.size ≤ 32) : ptext zs s 32 = (zs ++ beB s.size 2 ++ strI s, 0) := by unfold ptext; rw [if_neg (by omega)]
theorem ptext32_no {zs : List Int} {s : ByteArray} (h : ¬ s.size ≤ 32) : ptext zs s 32 = ([], 22) := by unfold ptext; rw [if_pos (by omega)]

/-- A call's six cells. -/
abbrev at6 (w : World) (b : Nat) (c s n : Int) (g m : ByteArray) (sl : Value) : Prop := at3 w b c s n ∧ w.cell? ⟨b, 3, none⟩ = some (.string g) ∧ w.cell? ⟨b, 4, none⟩ = some (.string m) ∧ w.cell? ⟨b, 5, none⟩ = some sl
theorem at6.keep {w w1 : World} (hb : Below w.heap.size w w1) {b c s n g m sl} (h : at6 w b c s n g m sl) : at6 w1 b c s n g m sl := ⟨h.1.keep hb, keepc hb h.2.1, keepc hb h.2.2.1, keepc hb h.2.2.2⟩
theorem at6.grown {w w1 : World} {row} (hb : w.grownBy w1 row) {b c s n g m sl} (hne : row ≠ some b) (h : at6 w b c s n g m sl) : at6 w1 b c s n g m sl := by
  have hl := World.block_lt_of_cell? w _ h.1.1
  refine ⟨h.1.grown hb hne, ?_, ?_, ?_⟩
  · rw [hb.cell_far ⟨b, 3, none⟩ hl (fun e => hne e.symm)]; exact h.2.1
  · rw [hb.cell_far ⟨b, 4, none⟩ hl (fun e => hne e.symm)]; exact h.2.2.1
  · rw [hb.cell_far ⟨b, 5, none⟩ hl (fun e => hne e.symm)]; exact h.2.2.2
theorem at6.new {w : World} {c s n g m sl t} : at6 (w.alloc (.cells #[.int .u32 c, .int .u32 s, .int .u16 n, .string g, .string m, sl] t)) w.heap.size c s n g m sl := by
  simp [at6, at3]
theorem VIn.grownB {base : Nat} {w w1 : World} {t v sl} (h : VIn (fun b => b < base) w t v) (hg : w.grownBy w1 (obk base sl)) : VIn (fun b => b < base) w1 t v :=
  h.keep (fun b hD hl => hg.block b hl (obk_lt hD)) (fun _ hD _ => hD)
theorem Ap.to_nil {w w' base sl sl' zs} (h : Ap w w' base sl sl' zs) : Ap w w' base sl (.slice none 0 0) [] := ⟨Bs.nil, h.grew, (fun _ h => by cases h), fun _ => World.ownsRow_nil _ _ _ _⟩
theorem flatB_len {l : List V} (h : chk l = 0) : (l.flatMap V.bytes).length ≤ l.length * 4096 := by
  have key : ∀ l : List V, (∀ t ∈ l, t.check = 0) → (l.flatMap V.bytes).length ≤ l.length * 4096 := by
    intro l
    induction l with
    | nil => intro _; simp
    | cons t ts ih =>
      intro h
      have h1 := ih (fun x hx => h x (List.mem_cons_of_mem _ hx))
      have h2 := V.check_zero (h t (List.mem_cons_self ..))
      have h3 := V.bytes_length t h2.1
      rw [List.flatMap_cons, List.length_append, List.length_cons, Nat.add_mul]
      omega
  exact key l (chk_mem h)
theorem flat_snoc (l : List V) (m : Nat) (h : m < l.length) : (l.take (m + 1)).flatMap V.bytes = (l.take m).flatMap V.bytes ++ l[m].bytes := by
  rw [List.take_succ_eq_append_getElem h, List.flatMap_append]
  simp

theorem putOp1_long (base : Nat) (sl : Value) (zs : List Int) (c s n : Nat) (g m : ByteArray) (l : List V) (al : Value) (w : World) (hi : c < 4294967296 ∧ s < 4294967296 ∧ n < 65536) (hs : g.size ≤ 140737488351232 ∧ m.size ≤ 140737488351232) (hb : Bs w base sl zs) (hbase : base ≤ w.heap.size) (hl : zs.length ≤ 140737470000000) (hv : VIn (fun b => b < base) w (VL l) al) (h : 16 < l.length) :
    Calls Try.prog 10 #[sl, oval c s n g m al] w (RetBE w base sl (oput zs c s n g m l)) := by
  obtain ⟨va, vc, rfl, hlc, _, _, _⟩ := hv.lst
  generalize hr : oput zs c s n g m l = r
  have HR := Lib.hid hr.symm
  have HV := Lib.hid hv
  have HB := Lib.hid hb
  have HLT := Lib.hid hb.lt
  have HBB := Lib.hid (fun o => ((Below.refl w.heap.size w).alloc (Nat.le_refl _) o : Below w.heap.size w (w.alloc o)))
  clear hr hv hb
  have HF := Lib.hid (show r = ([], 22) by rw [HR.out]; exact oput_big (.inl h))
  go_enter Try.func10, Try.ntmps10
  go_wp2_with fail
  refine bodyPost_ret (v := .tuple #[.slice none 0 0, .int .i64 22]) (by simp [results, Try.results10, go_sem]) rfl ⟨_, by rw [HF.out], ?_⟩
  rw [HF.out]
  exact (((Ap.refl HB.out).below (HBB.out _))).to_nil
theorem putOp1_name1 (base : Nat) (sl : Value) (zs : List Int) (c s n : Nat) (g m : ByteArray) (l : List V) (al : Value) (w : World) (hi : c < 4294967296 ∧ s < 4294967296 ∧ n < 65536) (hs : g.size ≤ 140737488351232 ∧ m.size ≤ 140737488351232) (hb : Bs w base sl zs) (hbase : base ≤ w.heap.size) (hl : zs.length ≤ 140737470000000) (hv : VIn (fun b => b < base) w (VL l) al) (h : l.length ≤ 16) (hg : ¬ g.size ≤ 32) :
    Calls Try.prog 10 #[sl, oval c s n g m al] w (RetBE w base sl (oput zs c s n g m l)) := by
  obtain ⟨va, vc, rfl, hlc, _, _, _⟩ := hv.lst
  generalize hr : oput zs c s n g m l = r
  have HR := Lib.hid hr.symm
  have HV := Lib.hid hv
  have HB := Lib.hid hb
  have HLT := Lib.hid hb.lt
  have HBB := Lib.hid (fun o => ((Below.refl w.heap.size w).alloc (Nat.le_refl _) o : Below w.heap.size w (w.alloc o)))
  clear hr hv hb
  have HF := Lib.hid (show r = ([], 22) by rw [HR.out]; exact oput_big (.inr (.inl (by omega))))
  go_enter Try.func10, Try.ntmps10
  go_wp2_with fail
  have HT0 := Lib.hid (at6.new (w := w) (c := c) (s := s) (n := n) (g := g) (m := m) (sl := .slice va l.length vc) (t := 29))
  have HB0 := Lib.hid ((Ap.refl HB.out).below (HBB.out (.cells #[.int .u32 c, .int .u32 s, .int .u16 n, .string g, .string m, .slice va l.length vc] 29)))
  have HZ0 := Lib.hid (show base ≤ (w.alloc (.cells #[.int .u32 c, .int .u32 s, .int .u16 n, .string g, .string m, .slice va l.length vc] 29)).heap.size by simp; omega)
  have HV0 := Lib.hid (HV.out.below (HBB.out (.cells #[.int .u32 c, .int .u32 s, .int .u16 n, .string g, .string m, .slice va l.length vc] 29)))
  obtain ⟨⟨c0, c1, c2⟩, c3, c4, c5⟩ := HT0.out
  generalize w.alloc _ = w0 at *
  have HC := Lib.hid (fun (wr : World) (g' : w0.grownBy wr (obk base sl)) => (at6.grown g' (fun e => by have := HLT.out _ (obk_some.1 e).1; omega) HT0.out : at6 wr w.heap.size c s n g m (.slice va l.length vc)))
  refine (putId1_c base sl zs c s n w0 hi HB0.out.bs HZ0.out (by omega)).mono ?_
  rintro e w1 ⟨sl1, rfl, hap1⟩
  have HA1 := Lib.hid hap1
  have HZ1 := Lib.hid (Nat.le_trans HZ0.out hap1.grew.size)
  clear c0 c1 c2 c3 c4 c5
  obtain ⟨⟨c0, c1, c2⟩, c3, c4, c5⟩ := HC.out w1 hap1.grew
  clear hap1
  go_wp2_with fail
  refine (ptext1_c base sl1 (zs ++ idB c s n) g 32 _ HA1.out.bs HZ1.out (by simp [idB_length, beB_length, strI_length]; omega) hs.1).mono ?_
  rintro e w2 ⟨sl2, rfl, hap2⟩
  rw [ptext32_no hg] at hap2 ⊢
  have HA2 := Lib.hid (HA1.out.trans hap2)
  have HZ2 := Lib.hid (Nat.le_trans HZ1.out hap2.grew.size)
  clear c0 c1 c2 c3 c4 c5 hap2
  obtain ⟨⟨c0, c1, c2⟩, c3, c4, c5⟩ := HC.out w2 HA2.out.grew
  go_wp2_with fail
  refine bodyPost_ret (v := .tuple #[.slice none 0 0, .int .i64 22]) (by simp [results, Try.results10, go_sem]) rfl ⟨_, by rw [HF.out], ?_⟩
  rw [HF.out]
  exact (HB0.out.trans HA2.out).to_nil
theorem putOp1_name2 (base : Nat) (sl : Value) (zs : List Int) (c s n : Nat) (g m : ByteArray) (l : List V) (al : Value) (w : World) (hi : c < 4294967296 ∧ s < 4294967296 ∧ n < 65536) (hs : g.size ≤ 140737488351232 ∧ m.size ≤ 140737488351232) (hb : Bs w base sl zs) (hbase : base ≤ w.heap.size) (hl : zs.length ≤ 140737470000000) (hv : VIn (fun b => b < base) w (VL l) al) (h : l.length ≤ 16) (hg : g.size ≤ 32) (hm : ¬ m.size ≤ 32) :
    Calls Try.prog 10 #[sl, oval c s n g m al] w (RetBE w base sl (oput zs c s n g m l)) := by
  obtain ⟨va, vc, rfl, hlc, _, _, _⟩ := hv.lst
  generalize hr : oput zs c s n g m l = r
  have HR := Lib.hid hr.symm
  have HV := Lib.hid hv
  have HB := Lib.hid hb
  have HLT := Lib.hid hb.lt
  have HBB := Lib.hid (fun o => ((Below.refl w.heap.size w).alloc (Nat.le_refl _) o : Below w.heap.size w (w.alloc o)))
  clear hr hv hb
  have HF := Lib.hid (show r = ([], 22) by rw [HR.out]; exact oput_big (.inr (.inr (by omega))))
  go_enter Try.func10, Try.ntmps10
  go_wp2_with fail
  have HT0 := Lib.hid (at6.new (w := w) (c := c) (s := s) (n := n) (g := g) (m := m) (sl := .slice va l.length vc) (t := 29))
  have HB0 := Lib.hid ((Ap.refl HB.out).below (HBB.out (.cells #[.int .u32 c, .int .u32 s, .int .u16 n, .string g, .string m, .slice va l.length vc] 29)))
  have HZ0 := Lib.hid (show base ≤ (w.alloc (.cells #[.int .u32 c, .int .u32 s, .int .u16 n, .string g, .string m, .slice va l.length vc] 29)).heap.size by simp; omega)
  have HV0 := Lib.hid (HV.out.below (HBB.out (.cells #[.int .u32 c, .int .u32 s, .int .u16 n, .string g, .string m, .slice va l.length vc] 29)))
  obtain ⟨⟨c0, c1, c2⟩, c3, c4, c5⟩ := HT0.out
  generalize w.alloc _ = w0 at *
  have HC := Lib.hid (fun (wr : World) (g' : w0.grownBy wr (obk base sl)) => (at6.grown g' (fun e => by have := HLT.out _ (obk_some.1 e).1; omega) HT0.out : at6 wr w.heap.size c s n g m (.slice va l.length vc)))
  refine (putId1_c base sl zs c s n w0 hi HB0.out.bs HZ0.out (by omega)).mono ?_
  rintro e w1 ⟨sl1, rfl, hap1⟩
  have HA1 := Lib.hid hap1
  have HZ1 := Lib.hid (Nat.le_trans HZ0.out hap1.grew.size)
  clear c0 c1 c2 c3 c4 c5
  obtain ⟨⟨c0, c1, c2⟩, c3, c4, c5⟩ := HC.out w1 hap1.grew
  clear hap1
  go_wp2_with fail
  refine (ptext1_c base sl1 (zs ++ idB c s n) g 32 _ HA1.out.bs HZ1.out (by simp [idB_length, beB_length, strI_length]; omega) hs.1).mono ?_
  rintro e w2 ⟨sl2, rfl, hap2⟩
  rw [ptext32 hg] at hap2 ⊢
  have HA2 := Lib.hid (HA1.out.trans hap2)
  have HZ2 := Lib.hid (Nat.le_trans HZ1.out hap2.grew.size)
  clear c0 c1 c2 c3 c4 c5 hap2
  obtain ⟨⟨c0, c1, c2⟩, c3, c4, c5⟩ := HC.out w2 HA2.out.grew
  go_wp2_with fail
  refine (ptext1_c base sl2 (zs ++ idB c s n ++ beB g.size 2 ++ strI g) m 32 _ HA2.out.bs HZ2.out (by simp [idB_length, beB_length, strI_length]; omega) hs.2).mono ?_
  rintro e w3 ⟨sl3, rfl, hap3⟩
  rw [ptext32_no hm] at hap3 ⊢
  have HA3 := Lib.hid (HA2.out.trans hap3)
  have HZ3 := Lib.hid (Nat.le_trans HZ2.out hap3.grew.size)
  clear c0 c1 c2 c3 c4 c5 hap3
  obtain ⟨⟨c0, c1, c2⟩, c3, c4, c5⟩ := HC.out w3 HA3.out.grew
  go_wp2_with fail
  refine bodyPost_ret (v := .tuple #[.slice none 0 0, .int .i64 22]) (by simp [results, Try.results10, go_sem]) rfl ⟨_, by rw [HF.out], ?_⟩
  rw [HF.out]
  exact (HB0.out.trans HA3.out).to_nil
set_option maxHeartbeats 1600000 in
theorem putOp1_args (base : Nat) (sl : Value) (zs : List Int) (c s n : Nat) (g m : ByteArray) (l : List V) (al : Value) (w : World) (hi : c < 4294967296 ∧ s < 4294967296 ∧ n < 65536) (hs : g.size ≤ 140737488351232 ∧ m.size ≤ 140737488351232) (hb : Bs w base sl zs) (hbase : base ≤ w.heap.size) (hl : zs.length ≤ 140737470000000) (hv : VIn (fun b => b < base) w (VL l) al) (h : l.length ≤ 16) (hg : g.size ≤ 32) (hm : m.size ≤ 32) :
    Calls Try.prog 10 #[sl, oval c s n g m al] w (RetBE w base sl (oput zs c s n g m l)) := by
  obtain ⟨va, vc, rfl, hlc, _, _, _⟩ := hv.lst
  generalize hr : oput zs c s n g m l = r
  have HR := Lib.hid hr.symm
  have HV := Lib.hid hv
  have HB := Lib.hid hb
  have HLT := Lib.hid hb.lt
  have HBB := Lib.hid (fun o => ((Below.refl w.heap.size w).alloc (Nat.le_refl _) o : Below w.heap.size w (w.alloc o)))
  clear hr hv hb
  have HBIG := Lib.hid (show ¬ (16 < l.length ∨ 32 < g.size ∨ 32 < m.size) by omega)
  have hw8 : IntKind.u8.wrap (l.length : Int) = l.length := by simp [IntKind.wrap, IntKind.bits, IntKind.signed]; omega
  go_enter Try.func10, Try.ntmps10
  go_wp2_with fail
  have HT0 := Lib.hid (at6.new (w := w) (c := c) (s := s) (n := n) (g := g) (m := m) (sl := .slice va l.length vc) (t := 29))
  have HB0 := Lib.hid ((Ap.refl HB.out).below (HBB.out (.cells #[.int .u32 c, .int .u32 s, .int .u16 n, .string g, .string m, .slice va l.length vc] 29)))
  have HZ0 := Lib.hid (show base ≤ (w.alloc (.cells #[.int .u32 c, .int .u32 s, .int .u16 n, .string g, .string m, .slice va l.length vc] 29)).heap.size by simp; omega)
  have HV0 := Lib.hid (HV.out.below (HBB.out (.cells #[.int .u32 c, .int .u32 s, .int .u16 n, .string g, .string m, .slice va l.length vc] 29)))
  obtain ⟨⟨c0, c1, c2⟩, c3, c4, c5⟩ := HT0.out
  generalize w.alloc _ = w0 at *
  have HC := Lib.hid (fun (wr : World) (g' : w0.grownBy wr (obk base sl)) => (at6.grown g' (fun e => by have := HLT.out _ (obk_some.1 e).1; omega) HT0.out : at6 wr w.heap.size c s n g m (.slice va l.length vc)))
  refine (putId1_c base sl zs c s n w0 hi HB0.out.bs HZ0.out (by omega)).mono ?_
  rintro e w1 ⟨sl1, rfl, hap1⟩
  have HA1 := Lib.hid hap1
  have HZ1 := Lib.hid (Nat.le_trans HZ0.out hap1.grew.size)
  clear c0 c1 c2 c3 c4 c5
  obtain ⟨⟨c0, c1, c2⟩, c3, c4, c5⟩ := HC.out w1 hap1.grew
  clear hap1
  go_wp2_with fail
  refine (ptext1_c base sl1 (zs ++ idB c s n) g 32 _ HA1.out.bs HZ1.out (by simp [idB_length, beB_length, strI_length]; omega) hs.1).mono ?_
  rintro e w2 ⟨sl2, rfl, hap2⟩
  rw [ptext32 hg] at hap2 ⊢
  have HA2 := Lib.hid (HA1.out.trans hap2)
  have HZ2 := Lib.hid (Nat.le_trans HZ1.out hap2.grew.size)
  clear c0 c1 c2 c3 c4 c5 hap2
  obtain ⟨⟨c0, c1, c2⟩, c3, c4, c5⟩ := HC.out w2 HA2.out.grew
  go_wp2_with fail
  refine (ptext1_c base sl2 (zs ++ idB c s n ++ beB g.size 2 ++ strI g) m 32 _ HA2.out.bs HZ2.out (by simp [idB_length, beB_length, strI_length]; omega) hs.2).mono ?_
  rintro e w3 ⟨sl3, rfl, hap3⟩
  rw [ptext32 hm] at hap3 ⊢
  generalize hz3 : zs ++ idB c s n ++ beB g.size 2 ++ strI g ++ beB m.size 2 ++ strI m = Z3 at hap3
  have HZ3Q := Lib.hid hz3
  have HZL := Lib.hid (show Z3.length ≤ 140737470010000 by rw [← hz3]; simp [idB_length, beB_length, strI_length]; omega)
  clear hz3
  have HA3 := Lib.hid (HA2.out.trans hap3)
  have HZ3 := Lib.hid (Nat.le_trans HZ2.out hap3.grew.size)
  clear c0 c1 c2 c3 c4 c5 hap3
  obtain ⟨⟨c0, c1, c2⟩, c3, c4, c5⟩ := HC.out w3 HA3.out.grew
  have HLN := Lib.hid (show Z3.length + 1 ≤ 140737488355328 by have := HZL.out; omega)
  go_wp2_with (at_builtin; (refine wpList_append_bs _ rfl _ _ rfl base sl3 (Z3) [(l.length : Int)] rfl (HA3.out.bs.below ((Below.refl _ _).alloc (Nat.le_refl _) _)) ⟨w3.heap.size, 0, none⟩ 1 1 rfl rfl (World.news_of_block (heap_alloc_new w3 _)) (by decide) HLN.out (by have := HZ3.out; simp; omega) ?_; intro g4 cap4 w4 hap4))
  have HA4 := Lib.hid (HA3.out.trans (((Ap.refl HA3.out.bs).below ((Below.refl _ _).alloc (Nat.le_refl _) _)).trans hap4))
  have HZ4 := Lib.hid (show base ≤ w4.heap.size by have h1 := hap4.grew.size; have h2 := HZ3.out; simp at h1; omega)
  clear hap4 c0 c1 c2 c3 c4 c5
  go_loopw [0, 7] (fun b j wr => ∃ k : Nat, k ≤ l.length ∧ j = .int .i64 k ∧ chk (l.take k) = 0 ∧ Ap w0 wr base sl b (Z3 ++ [(l.length : Int)] ++ (l.take k).flatMap V.bytes)) (fun _ j _ => l.length - (intOf j).toNat)
  case atStart => exact ⟨0, by omega, rfl, rfl, by simpa using HA4.out⟩
  case round =>
    obtain ⟨k, hk, rfl, hck, hap⟩ := hrel
    have HA := Lib.hid hap
    have HCK := Lib.hid hck
    obtain ⟨⟨c0, c1, c2⟩, c3, c4, c5⟩ := HC.out wr hap.grew
    clear hck
    by_cases hlt : k < l.length
    · obtain ⟨_, _, e1, _, _, _, hin⟩ := (HV0.out.grownB hap.grew).lst
      simp only [Value.slice.injEq] at e1
      obtain ⟨rfl, _, rfl⟩ := e1
      obtain ⟨b, o, rfl, he1⟩ := hin.resolve_left (fun e => by simp [e] at hlt)
      obtain ⟨hD, sa, sc, d0, d1, d2, d3, d4, hv⟩ := he1.get hlt
      have HVX := Lib.hid hv
      have hb2 : b < wr.heap.size := World.block_lt_of_cell? _ _ d0
      have HLB := Lib.hid (show (Z3 ++ [(l.length : Int)] ++ (l.take k).flatMap V.bytes).length ≤ 140737480000000 by
        have h1 := flatB_len HCK.out
        rw [List.length_take] at h1
        have := HZL.out
        simp only [List.length_append, List.length_cons, List.length_nil]
        omega)
      clear hv hap he1 hin
      go_wp2_with fail
      refine (Put1_c l[k] base u0 _ wr _ HA.out.bs (Nat.le_trans HZ0.out HA.out.grew.size) HLB.out HVX.out).mono ?_
      rintro e w6 ⟨sl6, rfl, hap6⟩
      by_cases hx : l[k].check = 0
      · have e6 : vput (Z3 ++ [(l.length : Int)] ++ (l.take k).flatMap V.bytes) l[k] = (Z3 ++ [(l.length : Int)] ++ (l.take (k + 1)).flatMap V.bytes, 0) := by
          unfold vput; rw [if_pos hx, flat_snoc l k hlt, List.append_assoc (Z3 ++ [(l.length : Int)])]
        rw [e6] at hap6 ⊢
        have HA6 := Lib.hid (HA.out.trans hap6)
        have HCK6 := Lib.hid (show chk (l.take (k + 1)) = 0 by rw [chk_take l k hlt HCK.out]; exact hx)
        clear e6 hap6 hx c0 c1 c2 c3 c4 c5 d0 d1 d2 d3 d4
        go_wp2_with fail
        go_roundw
        case rel => exact ⟨k + 1, by omega, by go_num, HCK6.out, HA6.out⟩
        case measure => simp [intOf]; omega
      · have e6 : vput (Z3 ++ [(l.length : Int)] ++ (l.take k).flatMap V.bytes) l[k] = ([], l[k].check) := by unfold vput; rw [if_neg hx]
        rw [e6] at hap6 ⊢
        have HF := Lib.hid (show r = ([], l[k].check) by rw [HR.out]; exact oput_no HBIG.out (chk_take l k hlt HCK.out) hx)
        have HA6 := Lib.hid (HA.out.trans hap6)
        have hxb : (l[k].check != 0) = true := by simpa using hx
        generalize l[k].check = E at hxb HF
        clear e6 hap6 hx c0 c1 c2 c3 c4 c5 d0 d1 d2 d3 d4
        go_wp2_with fail
        refine bodyPost_ret (v := .tuple #[.slice none 0 0, .int .i64 E]) (by simp [results, Try.results10, go_sem]) rfl ⟨_, by rw [HF.out], ?_⟩
        rw [HF.out]
        exact (HB0.out.trans HA6.out).to_nil
    · have hkl : k = l.length := by omega
      subst hkl
      have HF := Lib.hid (show r = (Z3 ++ [(l.length : Int)] ++ l.flatMap V.bytes, 0) by rw [HR.out, oput_yes HBIG.out (by have := HCK.out; rwa [List.take_length] at this), HZ3Q.out])
      have HAF := Lib.hid (show Ap w0 wr base sl u0 (Z3 ++ [(l.length : Int)] ++ l.flatMap V.bytes) by have := HA.out; rwa [List.take_length] at this)
      clear hap
      go_wp2_with fail
      refine bodyPost_ret (v := .tuple #[u0, .int .i64 0]) (by simp [results, Try.results10, go_sem]) rfl ⟨_, by rw [HF.out], ?_⟩
      rw [HF.out]
      exact HB0.out.trans HAF.out
theorem putOp1_c (base : Nat) (sl : Value) (zs : List Int) (c s n : Nat) (g m : ByteArray) (l : List V) (al : Value) (w : World) (hi : c < 4294967296 ∧ s < 4294967296 ∧ n < 65536) (hs : g.size ≤ 140737488351232 ∧ m.size ≤ 140737488351232) (hb : Bs w base sl zs) (hbase : base ≤ w.heap.size) (hl : zs.length ≤ 140737470000000) (hv : VIn (fun b => b < base) w (VL l) al) :
    Calls Try.prog 10 #[sl, oval c s n g m al] w (RetBE w base sl (oput zs c s n g m l)) := by
  by_cases h : l.length ≤ 16
  · by_cases hg : g.size ≤ 32
    · by_cases hm : m.size ≤ 32
      · exact putOp1_args base sl zs c s n g m l al w hi hs hb hbase hl hv h hg hm
      · exact putOp1_name2 base sl zs c s n g m l al w hi hs hb hbase hl hv h hg hm
    · exact putOp1_name1 base sl zs c s n g m l al w hi hs hb hbase hl hv h hg
  · exact putOp1_long base sl zs c s n g m l al w hi hs hb hbase hl hv (by omega)
end Go.Proofs.Ytkhgbbloeeaceaa
