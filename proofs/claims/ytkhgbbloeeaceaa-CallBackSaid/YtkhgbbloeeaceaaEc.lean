/- Replies put: by the reference, by the program. -/
import Derived.Test.YtkhgbbloeeaceaaEb
namespace Go.Proofs.Ytkhgbbloeeaceaa
open Go Go.RowKit
set_option maxRecDepth 16000
attribute [local go_sem ↓] run_store_float

/-- A reply as Go has it. -/
abbrev pval (c s n e : Int) (t : V) (sl : Value) : Value := .agg #[.int .u32 c, .int .u32 s, .int .u16 n, .int .i64 e, .int .i64 t.k, .int .i64 t.i, .float .f64 t.f, .string t.s, sl]
/-- What PutReply tells. -/
def rput (zs : List Int) (c s n : Nat) (e : Int) (t : V) : List Int × Int := if e < 0 ∨ 65535 < e then ([], 22) else vput (zs ++ idB c s n ++ beB e.toNat 2) t
/-- A reply's nine cells. -/
abbrev at9 (w : World) (b : Nat) (c s n e k i : Int) (f : Nat) (x : ByteArray) (sl : Value) : Prop := at3 w b c s n ∧ w.cell? ⟨b, 3, none⟩ = some (.int .i64 e) ∧ w.cell? ⟨b, 4, none⟩ = some (.int .i64 k) ∧ w.cell? ⟨b, 5, none⟩ = some (.int .i64 i) ∧ w.cell? ⟨b, 6, none⟩ = some (.float .f64 f) ∧ w.cell? ⟨b, 7, none⟩ = some (.string x) ∧ w.cell? ⟨b, 8, none⟩ = some sl
theorem at9.keep {w w1 : World} (hb : Below w.heap.size w w1) {b c s n e k i f x sl} (h : at9 w b c s n e k i f x sl) : at9 w1 b c s n e k i f x sl := ⟨h.1.keep hb, keepc hb h.2.1, keepc hb h.2.2.1, keepc hb h.2.2.2.1, keepc hb h.2.2.2.2.1, keepc hb h.2.2.2.2.2.1, keepc hb h.2.2.2.2.2.2⟩
theorem at9.grown {w w1 : World} {row} (hb : w.grownBy w1 row) {b c s n e k i f x sl} (hne : row ≠ some b) (h : at9 w b c s n e k i f x sl) : at9 w1 b c s n e k i f x sl := by
  have hl := World.block_lt_of_cell? w _ h.1.1
  refine ⟨h.1.grown hb hne, ?_, ?_, ?_, ?_, ?_, ?_⟩
  · rw [hb.cell_far ⟨b, 3, none⟩ hl (fun e => hne e.symm)]; exact h.2.1
  · rw [hb.cell_far ⟨b, 4, none⟩ hl (fun e => hne e.symm)]; exact h.2.2.1
  · rw [hb.cell_far ⟨b, 5, none⟩ hl (fun e => hne e.symm)]; exact h.2.2.2.1
  · rw [hb.cell_far ⟨b, 6, none⟩ hl (fun e => hne e.symm)]; exact h.2.2.2.2.1
  · rw [hb.cell_far ⟨b, 7, none⟩ hl (fun e => hne e.symm)]; exact h.2.2.2.2.2.1
  · rw [hb.cell_far ⟨b, 8, none⟩ hl (fun e => hne e.symm)]; exact h.2.2.2.2.2.2
theorem at9.new {w : World} {c s n e k i f x sl t} : at9 (w.alloc (.cells #[.int .u32 c, .int .u32 s, .int .u16 n, .int .i64 e, .int .i64 k, .int .i64 i, .float .f64 f, .string x, sl] t)) w.heap.size c s n e k i f x sl := by
  simp [at9, at3]

theorem putReply1_c (base : Nat) (sl : Value) (zs : List Int) (c s n : Nat) (e : Int) (t : V) (al : Value) (w : World) (hi : c < 4294967296 ∧ s < 4294967296 ∧ n < 65536) (hb : Bs w base sl zs) (hbase : base ≤ w.heap.size) (hl : zs.length ≤ 140737470000000) (hv : VIn (fun b => b < base) w t al) :
    Calls Try.prog 19 #[sl, pval c s n e t al] w (RetBE w base sl (rput zs c s n e t)) := by
  obtain ⟨k, i, f, x, l⟩ := t
  obtain ⟨va, vc, rfl⟩ := hv.form
  simp only [V.k_mk, V.i_mk, V.f_mk, V.s_mk, V.l_mk] at hv ⊢
  have HV := Lib.hid hv
  have HBB := Lib.hid (fun o => ((Below.refl w.heap.size w).alloc (Nat.le_refl _) o : Below w.heap.size w (w.alloc o)))
  have HB := Lib.hid hb
  have HLT := Lib.hid hb.lt
  clear hv hb
  by_cases h0 : e < 0
  · have HF := Lib.hid (show rput zs c s n e (V.mk k i f x l) = ([], 22) by unfold rput; rw [if_pos (.inl h0)])
    rw [HF.out]
    go_enter Try.func19, Try.ntmps19
    go_wp2_with fail
    exact bodyPost_ret (v := .tuple #[.slice none 0 0, .int .i64 22]) (by simp [results, Try.results19, go_sem]) rfl ⟨_, rfl, (((Ap.refl HB.out).below (HBB.out _))).to_nil⟩
  by_cases h1 : 65535 < e
  · have HF := Lib.hid (show rput zs c s n e (V.mk k i f x l) = ([], 22) by unfold rput; rw [if_pos (.inr h1)])
    rw [HF.out]
    go_enter Try.func19, Try.ntmps19
    go_wp2_with fail
    exact bodyPost_ret (v := .tuple #[.slice none 0 0, .int .i64 22]) (by simp [results, Try.results19, go_sem]) rfl ⟨_, rfl, (((Ap.refl HB.out).below (HBB.out _))).to_nil⟩
  obtain ⟨eN, rfl⟩ : ∃ eN : Nat, e = eN := ⟨e.toNat, by omega⟩
  have hw : IntKind.u64.wrap (eN : Int) = eN := wrap_u64 eN (by omega)
  generalize hr : rput zs c s n eN (V.mk k i f x l) = r
  have HR := Lib.hid (show r = vput (zs ++ idB c s n ++ beB eN 2) (V.mk k i f x l) by rw [← hr]; unfold rput; rw [if_neg (by omega)]; rfl)
  clear hr
  go_enter Try.func19, Try.ntmps19
  go_wp2_with fail
  have HT0 := Lib.hid (at9.new (w := w) (c := c) (s := s) (n := n) (e := eN) (k := k) (i := i) (f := f) (x := x) (sl := .slice va l.length vc) (t := 45))
  have HB0 := Lib.hid ((Ap.refl HB.out).below (HBB.out (.cells #[.int .u32 c, .int .u32 s, .int .u16 n, .int .i64 (eN : Int), .int .i64 k, .int .i64 i, .float .f64 f, .string x, .slice va l.length vc] 45)))
  have hz0 : base ≤ (w.alloc (.cells #[.int .u32 c, .int .u32 s, .int .u16 n, .int .i64 (eN : Int), .int .i64 k, .int .i64 i, .float .f64 f, .string x, .slice va l.length vc] 45)).heap.size := by simp; omega
  have HV0 := Lib.hid (HV.out.below (HBB.out (.cells #[.int .u32 c, .int .u32 s, .int .u16 n, .int .i64 (eN : Int), .int .i64 k, .int .i64 i, .float .f64 f, .string x, .slice va l.length vc] 45)))
  obtain ⟨⟨c0, c1, c2⟩, c3, c4, c5, c6, c7, c8⟩ := HT0.out
  generalize w.alloc _ = w0 at *
  have HB1 := Lib.hid ((Ap.refl HB0.out.bs).below (Below.refl _ _).drew)
  have HZW := Lib.hid (show w.heap.size < w0.heap.size from World.block_lt_of_cell? w0 _ HT0.out.1.1)
  go_wp2_with fail
  refine wp_region_held_drew (S := fun w' => at9 w' w.heap.size c s n eN k i f x (.slice va l.length vc)) (by kernel_rfl) (HT0.out.keep (Below.refl _ _).drew) (fun hT => ?_)
  refine H_take 0 hT rfl (by kernel_rfl) (by kernel_rfl) (by kernel_rfl) (fun _ _ _ h => h) (by rfl) (by (intro w' hw'; (try dsimp only at hw'); go_simp; try with_reducible rfl)) ?_
  try simp only [Act.put, List.setIfInBounds_toArray, List.set_cons_zero, List.set_cons_succ]
  refine H_take 1 hT rfl (by kernel_rfl) (by kernel_rfl) (by kernel_rfl) (fun _ _ _ h => h) (by rfl) (by (intro w' hw'; (try dsimp only at hw'); go_simp; try with_reducible rfl)) ?_
  try simp only [Act.put, List.setIfInBounds_toArray, List.set_cons_zero, List.set_cons_succ]
  refine H_take 2 hT rfl (by kernel_rfl) (by kernel_rfl) (by kernel_rfl) (fun _ _ _ h => h) (by rfl) (by (intro w' hw'; (try dsimp only at hw'); go_simp; try with_reducible rfl)) ?_
  try simp only [Act.put, List.setIfInBounds_toArray, List.set_cons_zero, List.set_cons_succ]
  refine H_take 4 hT rfl (by kernel_rfl) (by kernel_rfl) (by kernel_rfl) (fun _ _ _ h => h) (by rfl) (by (intro w' hw'; (try dsimp only at hw'); go_simp; try with_reducible rfl)) ?_
  try simp only [Act.put, List.setIfInBounds_toArray, List.set_cons_zero, List.set_cons_succ]
  refine H_take 5 hT rfl (by kernel_rfl) (by kernel_rfl) (by kernel_rfl) (fun _ _ _ h => h) (by rfl) (by (intro w' hw'; (try dsimp only at hw'); go_simp; try with_reducible rfl)) ?_
  try simp only [Act.put, List.setIfInBounds_toArray, List.set_cons_zero, List.set_cons_succ]
  refine H_take 6 hT rfl (by kernel_rfl) (by kernel_rfl) (by kernel_rfl) (fun _ _ _ h => h) (by rfl) (by (intro w' hw'; (try dsimp only at hw'); go_simp; try with_reducible rfl)) ?_
  try simp only [Act.put, List.setIfInBounds_toArray, List.set_cons_zero, List.set_cons_succ]
  refine H_take 8 hT rfl (by kernel_rfl) (by kernel_rfl) (by kernel_rfl) (fun _ _ _ h => h) (by rfl) (by (intro w' hw'; (try dsimp only at hw'); go_simp; try with_reducible rfl)) ?_
  try simp only [Act.put, List.setIfInBounds_toArray, List.set_cons_zero, List.set_cons_succ]
  refine H_take 9 hT rfl (by kernel_rfl) (by kernel_rfl) (by kernel_rfl) (fun _ _ _ h => h) (by rfl) (by (intro w' hw'; (try dsimp only at hw'); go_simp; try with_reducible rfl)) ?_
  try simp only [Act.put, List.setIfInBounds_toArray, List.set_cons_zero, List.set_cons_succ]
  refine H_one 3 rfl (by kernel_rfl) (fun K hK => ?_)
  rw [if_pos (by rfl)]
  go_simp
  refine (putId1_c base sl zs c s n _ hi HB1.out.bs (by first | exact hz0 | simpa using hz0) (by omega)).mono ?_
  rintro e v0 ⟨sl0, rfl, hap0⟩
  have H0 := Lib.hid (HB1.out.trans hap0)
  have hz1 : base ≤ v0.heap.size := Nat.le_trans (by first | exact hz0 | simpa using hz0) hap0.grew.size
  refine hK _ _ (at9.grown hap0.grew (fun e => by
    rcases HB1.out.at_ _ (obk_some.1 e).1 with h | h
    · have := HLT.out _ h; omega
    · have := HZW.out; omega) hT) (fun hT0 => ?_)
  clear hK hap0
  try simp only [Act.put, List.setIfInBounds_toArray, List.set_cons_zero, List.set_cons_succ]
  refine H_one 7 rfl (by kernel_rfl) (fun K hK => ?_)
  rw [if_pos (by rfl)]
  go_simp
  try simp only [hw]
  refine (putU1_c base sl0 (zs ++ idB c s n) eN (by omega) 2 _ H0.out.bs hz1 (by simp [idB_length]; omega)).mono ?_
  rintro e v1 ⟨sl1, rfl, hap1⟩
  rw [nOf2] at hap1
  have H1 := Lib.hid (H0.out.trans hap1)
  have hz2 : base ≤ v1.heap.size := Nat.le_trans (by first | exact hz1 | simpa using hz1) hap1.grew.size
  refine hK _ _ (at9.grown hap1.grew (fun e => by
    rcases H0.out.at_ _ (obk_some.1 e).1 with h | h
    · have := HLT.out _ h; omega
    · have := HZW.out; omega) hT0) (fun hT1 => ?_)
  clear hK hap1
  try simp only [Act.put, List.setIfInBounds_toArray, List.set_cons_zero, List.set_cons_succ]
  refine H_one 10 rfl (by kernel_rfl) (fun K hK => ?_)
  rw [if_pos (by rfl)]
  go_simp
  refine (Put1_c (V.mk k i f x l) base sl1 (zs ++ idB c s n ++ beB eN 2) _ (.slice va l.length vc) H1.out.bs hz2 (by simp [idB_length, beB_length]; omega) (HV0.out.grownB H1.out.grew)).mono ?_
  rintro e v2 ⟨sl2, rfl, hap2⟩
  rw [← HR.out] at hap2 ⊢
  have H2 := Lib.hid (H1.out.trans hap2)
  have hz3 : base ≤ v2.heap.size := Nat.le_trans (by first | exact hz2 | simpa using hz2) hap2.grew.size
  refine hK _ _ (at9.grown hap2.grew (fun e => by
    rcases H1.out.at_ _ (obk_some.1 e).1 with h | h
    · have := HLT.out _ h; omega
    · have := HZW.out; omega) hT1) (fun hT2 => ?_)
  clear hK hap2
  try simp only [Act.put, List.setIfInBounds_toArray, List.set_cons_zero, List.set_cons_succ]
  refine H_take 11 hT2 rfl (by kernel_rfl) (by kernel_rfl) (by kernel_rfl) (fun _ _ _ h => h) (by rfl) (by (intro w' hw'; (try dsimp only at hw'); go_simp; try with_reducible rfl)) ?_
  try simp only [Act.put, List.setIfInBounds_toArray, List.set_cons_zero, List.set_cons_succ]
  refine H_take 12 hT2 rfl (by kernel_rfl) (by kernel_rfl) (by kernel_rfl) (fun _ _ _ h => h) (by rfl) (by (intro w' hw'; (try dsimp only at hw'); go_simp; try with_reducible rfl)) ?_
  try simp only [Act.put, List.setIfInBounds_toArray, List.set_cons_zero, List.set_cons_succ]
  refine H_take 13 hT2 rfl (by kernel_rfl) (by kernel_rfl) (by kernel_rfl) (fun _ _ _ h => h) (by rfl) (by (intro w' hw'; (try dsimp only at hw'); go_simp; try with_reducible rfl)) ?_
  try simp only [Act.put, List.setIfInBounds_toArray, List.set_cons_zero, List.set_cons_succ]
  refine H_take 14 hT2 rfl (by kernel_rfl) (by kernel_rfl) (by kernel_rfl) (fun _ _ _ h => h) (by rfl) (by (intro w' hw'; (try dsimp only at hw'); go_simp; try with_reducible rfl)) ?_
  try simp only [Act.put, List.setIfInBounds_toArray, List.set_cons_zero, List.set_cons_succ]
  refine wpAnyH_done (by kernel_rfl) ?_ _
  clear hT hT0 hT1 hT2
  go_wp2_with fail
  exact bodyPost_ret (v := .tuple #[sl2, .int .i64 r.2]) (by simp [results, Try.results19, go_sem]) rfl ⟨_, rfl, HB0.out.trans H2.out⟩

set_option maxHeartbeats 1600000 in
theorem putReply2_c (base : Nat) (a : Option Addr) (ca : Nat) (zs : List Int) (c s n : Nat) (e : Int) (t : V) (al : Value) (w : World) (hi : c < 4294967296 ∧ s < 4294967296 ∧ n < 65536) (hz : BIn w a zs) (hc : a = none → ca = 0) (hlc : zs.length ≤ ca) (hbase : base ≤ w.heap.size) (hl : zs.length ≤ 140737470000000) (hv : VIn (fun b => b < base) w t al) :
    Calls Try.prog 18 #[.slice a zs.length ca, pval c s n e t al] w (RetNE w base (rput zs c s n e t)) := by
  obtain ⟨k, i, f, x, l⟩ := t
  obtain ⟨va, vc, rfl⟩ := hv.form
  simp only [V.k_mk, V.i_mk, V.f_mk, V.s_mk, V.l_mk] at hv ⊢
  have HV := Lib.hid hv
  have HBB := Lib.hid (fun o => ((Below.refl w.heap.size w).alloc (Nat.le_refl _) o : Below w.heap.size w (w.alloc o)))
  have HZ := Lib.hid hz
  have HBY := Lib.hid hz.byt
  clear hv hz
  by_cases h0 : e < 0
  · have HF := Lib.hid (show rput zs c s n e (V.mk k i f x l) = ([], 22) by unfold rput; rw [if_pos (.inl h0)])
    rw [HF.out]
    go_enter Try.func18, Try.ntmps18
    go_wp2_with fail
    exact bodyPost_ret (v := .tuple #[.slice none 0 0, .int .i64 22]) (by simp [results, Try.results18, go_sem]) rfl ⟨_, rfl, Bs.nil, HBB.out _, (fun _ h => by cases h)⟩
  by_cases h1 : 65535 < e
  · have HF := Lib.hid (show rput zs c s n e (V.mk k i f x l) = ([], 22) by unfold rput; rw [if_pos (.inr h1)])
    rw [HF.out]
    go_enter Try.func18, Try.ntmps18
    go_wp2_with fail
    exact bodyPost_ret (v := .tuple #[.slice none 0 0, .int .i64 22]) (by simp [results, Try.results18, go_sem]) rfl ⟨_, rfl, Bs.nil, HBB.out _, (fun _ h => by cases h)⟩
  obtain ⟨eN, rfl⟩ : ∃ eN : Nat, e = eN := ⟨e.toNat, by omega⟩
  have hw : IntKind.u64.wrap (eN : Int) = eN := wrap_u64 eN (by omega)
  generalize hr : rput zs c s n eN (V.mk k i f x l) = r
  have HR := Lib.hid (show r = vput (zs ++ idB c s n ++ beB eN 2) (V.mk k i f x l) by rw [← hr]; unfold rput; rw [if_neg (by omega)]; rfl)
  clear hr
  go_enter Try.func18, Try.ntmps18
  go_wp2_with fail
  have HT0 := Lib.hid (at9.new (w := w) (c := c) (s := s) (n := n) (e := eN) (k := k) (i := i) (f := f) (x := x) (sl := .slice va l.length vc) (t := 45))
  have HBO := Lib.hid (HBB.out (.cells #[.int .u32 c, .int .u32 s, .int .u16 n, .int .i64 (eN : Int), .int .i64 k, .int .i64 i, .float .f64 f, .string x, .slice va l.length vc] 45))
  have hz0 : base ≤ (w.alloc (.cells #[.int .u32 c, .int .u32 s, .int .u16 n, .int .i64 (eN : Int), .int .i64 k, .int .i64 i, .float .f64 f, .string x, .slice va l.length vc] 45)).heap.size := by simp; omega
  have HV0 := Lib.hid (HV.out.below HBO.out)
  have HZ0 := Lib.hid (HZ.out.below HBO.out)
  obtain ⟨⟨c0, c1, c2⟩, c3, c4, c5, c6, c7, c8⟩ := HT0.out
  generalize w.alloc _ = w0 at *
  have HBD := Lib.hid ((Below.refl w0.heap.size w0).drew)
  have HZW := Lib.hid (show w.heap.size < w0.heap.size from World.block_lt_of_cell? w0 _ HT0.out.1.1)
  go_wp2_with fail
  refine wp_region_held_drew (S := fun w' => at9 w' w.heap.size c s n eN k i f x (.slice va l.length vc)) (by kernel_rfl) (HT0.out.keep (Below.refl _ _).drew) (fun hT => ?_)
  refine H_take 0 hT rfl (by kernel_rfl) (by kernel_rfl) (by kernel_rfl) (fun _ _ _ h => h) (by rfl) (by (intro w' hw'; (try dsimp only at hw'); go_simp; try with_reducible rfl)) ?_
  try simp only [Act.put, List.setIfInBounds_toArray, List.set_cons_zero, List.set_cons_succ]
  refine H_take 1 hT rfl (by kernel_rfl) (by kernel_rfl) (by kernel_rfl) (fun _ _ _ h => h) (by rfl) (by (intro w' hw'; (try dsimp only at hw'); go_simp; try with_reducible rfl)) ?_
  try simp only [Act.put, List.setIfInBounds_toArray, List.set_cons_zero, List.set_cons_succ]
  refine H_take 2 hT rfl (by kernel_rfl) (by kernel_rfl) (by kernel_rfl) (fun _ _ _ h => h) (by rfl) (by (intro w' hw'; (try dsimp only at hw'); go_simp; try with_reducible rfl)) ?_
  try simp only [Act.put, List.setIfInBounds_toArray, List.set_cons_zero, List.set_cons_succ]
  refine H_take 4 hT rfl (by kernel_rfl) (by kernel_rfl) (by kernel_rfl) (fun _ _ _ h => h) (by rfl) (by (intro w' hw'; (try dsimp only at hw'); go_simp; try with_reducible rfl)) ?_
  try simp only [Act.put, List.setIfInBounds_toArray, List.set_cons_zero, List.set_cons_succ]
  refine H_take 5 hT rfl (by kernel_rfl) (by kernel_rfl) (by kernel_rfl) (fun _ _ _ h => h) (by rfl) (by (intro w' hw'; (try dsimp only at hw'); go_simp; try with_reducible rfl)) ?_
  try simp only [Act.put, List.setIfInBounds_toArray, List.set_cons_zero, List.set_cons_succ]
  refine H_take 6 hT rfl (by kernel_rfl) (by kernel_rfl) (by kernel_rfl) (fun _ _ _ h => h) (by rfl) (by (intro w' hw'; (try dsimp only at hw'); go_simp; try with_reducible rfl)) ?_
  try simp only [Act.put, List.setIfInBounds_toArray, List.set_cons_zero, List.set_cons_succ]
  refine H_take 8 hT rfl (by kernel_rfl) (by kernel_rfl) (by kernel_rfl) (fun _ _ _ h => h) (by rfl) (by (intro w' hw'; (try dsimp only at hw'); go_simp; try with_reducible rfl)) ?_
  try simp only [Act.put, List.setIfInBounds_toArray, List.set_cons_zero, List.set_cons_succ]
  refine H_take 9 hT rfl (by kernel_rfl) (by kernel_rfl) (by kernel_rfl) (fun _ _ _ h => h) (by rfl) (by (intro w' hw'; (try dsimp only at hw'); go_simp; try with_reducible rfl)) ?_
  try simp only [Act.put, List.setIfInBounds_toArray, List.set_cons_zero, List.set_cons_succ]
  refine H_one 3 rfl (by kernel_rfl) (fun K hK => ?_)
  rw [if_pos (by rfl)]
  go_simp
  refine (putId2_c base a ca zs c s n _ hi (HZ0.out.below HBD.out) hc hlc (by first | exact hz0 | simpa using hz0) (by omega)).mono ?_
  rintro e v0 ⟨sl0, rfl, hown0, hbel0, hat0⟩
  have H0 := Lib.hid (And.intro hown0 (And.intro (show Below w0.heap.size w0 v0 from HBD.out.trans hbel0) (show ∀ k, sl0.ownBlock = some k → w0.heap.size ≤ k from hat0)))
  refine hK _ _ (at9.keep hbel0 hT) (fun hT0 => ?_)
  clear hK hown0 hbel0 hat0
  try simp only [Act.put, List.setIfInBounds_toArray, List.set_cons_zero, List.set_cons_succ]
  refine H_one 7 rfl (by kernel_rfl) (fun K hK => ?_)
  rw [if_pos (by rfl)]
  go_simp
  try simp only [hw]
  refine (putU2_b base sl0 (zs ++ idB c s n) eN (by omega) 2 _ (.inl H0.out.1) (HBY.out.append (((beB_byt _ _).append (beB_byt _ _)).append (beB_byt _ _))) (Nat.le_trans hz0 H0.out.2.1.size) (by simp [idB_length]; omega)).mono ?_
  rintro e v1 ⟨sl1, rfl, hap1⟩
  rw [nOf2] at hap1
  have H1 := Lib.hid (And.intro (hap1.ow ⟨_, H0.out.1⟩) (hap1.fresh H0.out.2.1 H0.out.2.2).2)
  refine hK _ _ (at9.grown hap1.grew (fun e => by have := H0.out.2.2 _ (obk_some.1 e).1; have := HZW.out; omega) hT0) (fun hT1 => ?_)
  clear hK hap1
  try simp only [Act.put, List.setIfInBounds_toArray, List.set_cons_zero, List.set_cons_succ]
  refine H_one 10 rfl (by kernel_rfl) (fun K hK => ?_)
  rw [if_pos (by rfl)]
  go_simp
  generalize hz1 : zs ++ idB c s n ++ beB eN 2 = Z1 at *
  have hzl : Z1.length ≤ 140737480000000 := by rw [← hz1]; simp [idB_length, beB_length]; omega
  have hzb : Byt Z1 := by rw [← hz1]; exact (HBY.out.append (((beB_byt _ _).append (beB_byt _ _)).append (beB_byt _ _))).append (beB_byt _ _)
  obtain ⟨a1, k1, rfl, g1, g2, g3⟩ := (show Bs v1 base sl1 Z1 from .inl H1.out.1).binB hzb (by omega)
  refine (Put2_c (V.mk k i f x l) base a1 k1 Z1 _ (.slice va l.length vc) g3 g2 g1.1 (Nat.le_trans hz0 H1.out.2.1.size) hzl (HV0.out.below H1.out.2.1)).mono ?_
  rintro e v2 ⟨sl2, rfl, hbs2, hbel2, hat2⟩
  rw [← HR.out] at hbs2 ⊢
  have H2 := Lib.hid (And.intro hbs2 (And.intro (HBO.out.trans ((H1.out.2.1.trans (hbel2.mono H1.out.2.1.size)).mono HBO.out.size)) (show ∀ q, sl2.ownBlock = some q → w.heap.size ≤ q from fun q hq => Nat.le_trans (Nat.le_trans HBO.out.size H1.out.2.1.size) (hat2 q hq))))
  obtain ⟨rz, re⟩ := r
  refine hK _ _ (at9.keep hbel2 hT1) (fun hT2 => ?_)
  clear hK hbs2 hbel2 hat2
  try simp only [Act.put, List.setIfInBounds_toArray, List.set_cons_zero, List.set_cons_succ]
  refine H_take 11 hT2 rfl (by kernel_rfl) (by kernel_rfl) (by kernel_rfl) (fun _ _ _ h => h) (by rfl) (by (intro w' hw'; (try dsimp only at hw'); go_simp; try with_reducible rfl)) ?_
  try simp only [Act.put, List.setIfInBounds_toArray, List.set_cons_zero, List.set_cons_succ]
  refine H_take 12 hT2 rfl (by kernel_rfl) (by kernel_rfl) (by kernel_rfl) (fun _ _ _ h => h) (by rfl) (by (intro w' hw'; (try dsimp only at hw'); go_simp; try with_reducible rfl)) ?_
  try simp only [Act.put, List.setIfInBounds_toArray, List.set_cons_zero, List.set_cons_succ]
  refine H_take 13 hT2 rfl (by kernel_rfl) (by kernel_rfl) (by kernel_rfl) (fun _ _ _ h => h) (by rfl) (by (intro w' hw'; (try dsimp only at hw'); go_simp; try with_reducible rfl)) ?_
  try simp only [Act.put, List.setIfInBounds_toArray, List.set_cons_zero, List.set_cons_succ]
  refine H_take 14 hT2 rfl (by kernel_rfl) (by kernel_rfl) (by kernel_rfl) (fun _ _ _ h => h) (by rfl) (by (intro w' hw'; (try dsimp only at hw'); go_simp; try with_reducible rfl)) ?_
  try simp only [Act.put, List.setIfInBounds_toArray, List.set_cons_zero, List.set_cons_succ]
  refine H_take 15 hT2 rfl (by kernel_rfl) (by kernel_rfl) (by kernel_rfl) (fun _ _ _ h => h) (by rfl) (by (intro w' hw'; (try dsimp only at hw'); go_simp; try with_reducible rfl)) ?_
  try simp only [Act.put, List.setIfInBounds_toArray, List.set_cons_zero, List.set_cons_succ]
  refine wpAnyH_done (by kernel_rfl) ?_ _
  clear hT hT0 hT1 hT2 g1 g2 g3
  by_cases hre : re = 0
  · subst hre
    go_wp2_with fail
    exact bodyPost_ret (v := .tuple #[sl2, .int .i64 0]) (by simp [results, Try.results18, go_sem]) rfl ⟨_, rfl, H2.out.1, H2.out.2.1, H2.out.2.2⟩
  · have hrb : (re != 0) = true := by simpa using hre
    have HNZ := Lib.hid (show rz = [] by
      have := HR.out
      unfold vput at this
      split at this
      · simp only [Prod.mk.injEq] at this; exact absurd this.2 hre
      · simp only [Prod.mk.injEq] at this; exact this.1)
    clear hre
    go_wp2_with fail
    exact bodyPost_ret (v := .tuple #[.slice none 0 0, .int .i64 re]) (by simp [results, Try.results18, go_sem]) rfl ⟨_, rfl, by rw [HNZ.out]; exact Bs.nil, H2.out.2.1, (fun _ h => by cases h)⟩
end Go.Proofs.Ytkhgbbloeeaceaa
