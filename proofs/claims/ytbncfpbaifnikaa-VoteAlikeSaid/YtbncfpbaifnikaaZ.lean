/- The law of replies alike. -/
import Derived.Test.YtbncfpbaifnikaaY
namespace Go.Proofs.Ytbncfpbaifnikaa
open Go Go.RowKit
attribute [local go_sem ↓] run_store_float

/-- A reply's block, of any value. -/
abbrev BV (w : World) (b : Nat) (c s n e k i : Int) (f : Nat) (x : ByteArray) (sl : Value) : Prop :=
  w.heap[b]? = some (.cells #[.int .u32 c, .int .u32 s, .int .u16 n, .int .i64 e, .int .i64 k, .int .i64 i, .float .f64 f, .string x, sl] 32)
theorem BV.new {w : World} {c s n e k i f x sl} : BV (w.alloc (.cells #[.int .u32 c, .int .u32 s, .int .u16 n, .int .i64 e, .int .i64 k, .int .i64 i, .float .f64 f, .string x, sl] 32)) w.heap.size c s n e k i f x sl := heap_alloc_new _ _
theorem BV.new2 {w : World} {o : Obj} {c s n e k i f x sl} : BV ((w.alloc o).alloc (.cells #[.int .u32 c, .int .u32 s, .int .u16 n, .int .i64 e, .int .i64 k, .int .i64 i, .float .f64 f, .string x, sl] 32)) (w.heap.size + 1) c s n e k i f x sl :=
  block_alloc_at _ (by simp)
abbrev set5 (w : World) (b : Nat) (k i : Int) (f : Nat) (x : ByteArray) (sl : Value) : World :=
  ((((w.setCell ⟨b, 4, none⟩ (.int .i64 k)).setCell ⟨b, 5, none⟩ (.int .i64 i)).setCell ⟨b, 6, none⟩ (.float .f64 f)).setCell ⟨b, 7, none⟩ (.string x)).setCell ⟨b, 8, none⟩ sl
theorem BV.set {w : World} {b c s n e k i f x sl} (h : BV w b c s n e k i f x sl) (k2 i2 : Int) (f2 : Nat) (x2 : ByteArray) (sl2 : Value) : BV (set5 w b k2 i2 f2 x2 sl2) b c s n e k2 i2 f2 x2 sl2 := by
  have e1 := block_setCell_self (i := 4) (u := .int .i64 k2) h
  simp only [List.setIfInBounds_toArray, List.set_cons_succ, List.set_cons_zero] at e1
  have e2 := block_setCell_self (i := 5) (u := .int .i64 i2) e1
  simp only [List.setIfInBounds_toArray, List.set_cons_succ, List.set_cons_zero] at e2
  have e3 := block_setCell_self (i := 6) (u := .float .f64 f2) e2
  simp only [List.setIfInBounds_toArray, List.set_cons_succ, List.set_cons_zero] at e3
  have e4 := block_setCell_self (i := 7) (u := .string x2) e3
  simp only [List.setIfInBounds_toArray, List.set_cons_succ, List.set_cons_zero] at e4
  have e5 := block_setCell_self (i := 8) (u := sl2) e4
  simp only [List.setIfInBounds_toArray, List.set_cons_succ, List.set_cons_zero] at e5
  exact e5
theorem heap_set5 {w : World} {b : Nat} {k i : Int} {f : Nat} {x : ByteArray} {sl : Value} {j : Nat} (hk : j ≠ b) : (set5 w b k i f x sl).heap[j]? = w.heap[j]? := by
  rw [Below.heap_setCell _ _ _ _ hk, Below.heap_setCell _ _ _ _ hk, Below.heap_setCell _ _ _ _ hk, Below.heap_setCell _ _ _ _ hk, Below.heap_setCell _ _ _ _ hk]
theorem below_set5 {B : Nat} {w w1 : World} (h : Below B w w1) {b : Nat} (hb : B ≤ b) {k i : Int} {f : Nat} {x : ByteArray} {sl : Value} : Below B w (set5 w1 b k i f x sl) :=
  ((((h.setCell hb _).setCell hb _).setCell hb _).setCell hb _).setCell hb _
abbrev set9 (w : World) (b : Nat) (c s n e k i : Int) (f : Nat) (x : ByteArray) (sl : Value) : World :=
  ((((((((w.setCell ⟨b, 0, none⟩ (.int .u32 c)).setCell ⟨b, 1, none⟩ (.int .u32 s)).setCell ⟨b, 2, none⟩ (.int .u16 n)).setCell ⟨b, 3, none⟩ (.int .i64 e)).setCell ⟨b, 4, none⟩ (.int .i64 k)).setCell ⟨b, 5, none⟩ (.int .i64 i)).setCell ⟨b, 6, none⟩ (.float .f64 f)).setCell ⟨b, 7, none⟩ (.string x)).setCell ⟨b, 8, none⟩ sl
theorem BV.set9 {w : World} {b c s n e k i f x sl} (h : BV w b c s n e k i f x sl) (c2 s2 n2 e2 k2 i2 : Int) (f2 : Nat) (x2 : ByteArray) (sl2 : Value) : BV (set9 w b c2 s2 n2 e2 k2 i2 f2 x2 sl2) b c2 s2 n2 e2 k2 i2 f2 x2 sl2 := by
  have e10 := block_setCell_self (i := 0) (u := .int .u32 c2) h
  simp only [List.setIfInBounds_toArray, List.set_cons_succ, List.set_cons_zero] at e10
  have e11 := block_setCell_self (i := 1) (u := .int .u32 s2) e10
  simp only [List.setIfInBounds_toArray, List.set_cons_succ, List.set_cons_zero] at e11
  have e12 := block_setCell_self (i := 2) (u := .int .u16 n2) e11
  simp only [List.setIfInBounds_toArray, List.set_cons_succ, List.set_cons_zero] at e12
  have e13 := block_setCell_self (i := 3) (u := .int .i64 e2) e12
  simp only [List.setIfInBounds_toArray, List.set_cons_succ, List.set_cons_zero] at e13
  have e14 := block_setCell_self (i := 4) (u := .int .i64 k2) e13
  simp only [List.setIfInBounds_toArray, List.set_cons_succ, List.set_cons_zero] at e14
  have e15 := block_setCell_self (i := 5) (u := .int .i64 i2) e14
  simp only [List.setIfInBounds_toArray, List.set_cons_succ, List.set_cons_zero] at e15
  have e16 := block_setCell_self (i := 6) (u := .float .f64 f2) e15
  simp only [List.setIfInBounds_toArray, List.set_cons_succ, List.set_cons_zero] at e16
  have e17 := block_setCell_self (i := 7) (u := .string x2) e16
  simp only [List.setIfInBounds_toArray, List.set_cons_succ, List.set_cons_zero] at e17
  have e18 := block_setCell_self (i := 8) (u := sl2) e17
  simp only [List.setIfInBounds_toArray, List.set_cons_succ, List.set_cons_zero] at e18
  exact e18
theorem heap_set9 {w : World} {b : Nat} {c s n e k i : Int} {f : Nat} {x : ByteArray} {sl : Value} {j : Nat} (hk : j ≠ b) : (set9 w b c s n e k i f x sl).heap[j]? = w.heap[j]? := by
  rw [Below.heap_setCell _ _ _ _ hk, Below.heap_setCell _ _ _ _ hk, Below.heap_setCell _ _ _ _ hk, Below.heap_setCell _ _ _ _ hk, Below.heap_setCell _ _ _ _ hk, Below.heap_setCell _ _ _ _ hk, Below.heap_setCell _ _ _ _ hk, Below.heap_setCell _ _ _ _ hk, Below.heap_setCell _ _ _ _ hk]
theorem lt_of_block {w : World} {b : Nat} {o : Obj} (h : w.heap[b]? = some o) : b < w.heap.size := (Array.getElem?_eq_some_iff.1 h).1
theorem like_self (c s n e : Int) (t : V) : (idEq c s n c s n && (e == e && t.ord t == 0)) = true := by
  unfold idEq; rw [V.ord_self]; simp
theorem like_flt (c s n e : Int) (F G : Nat) : (idEq c s n c s n && (e == e && (V.flt F).ord (V.flt G) == 0)) = (floatsI F G == 0) := by
  unfold idEq; rw [show (V.flt F).ord (V.flt G) = floatsI F G by unfold V.flt; rw [V.ord_mk]; simp]; simp
theorem BV.lt {w b c s n e k i f x sl} (h : BV w b c s n e k i f x sl) : b < w.heap.size := (Array.getElem?_eq_some_iff.1 h).1

set_option maxHeartbeats 4000000 in
theorem voteAlike_c (c s n e k1 i1 : Int) (f1 : Nat) (s1 : ByteArray) (l1 : List V) (sl : Value) (c' s' n' e' k2 i2 : Int) (f2 : Nat) (s2 : ByteArray) (l2 : List V) (sl' : Value) (same : Bool) (f g : Nat) (hf : f < 2 ^ 64) (hg : g < 2 ^ 64) (w : World) (D E : Nat → Prop) (h1 : VIn D w (.mk k1 i1 f1 s1 l1) sl) (h2 : VIn E w (.mk k2 i2 f2 s2 l2) sl') :
    Calls Try.prog 3 #[.agg #[.int .u32 c, .int .u32 s, .int .u16 n, .int .i64 e, .int .i64 k1, .int .i64 i1, .float .f64 f1, .string s1, sl], .agg #[.int .u32 c', .int .u32 s', .int .u16 n', .int .i64 e', .int .i64 k2, .int .i64 i2, .float .f64 f2, .string s2, sl'], .bool same, .float .f64 f, .float .f64 g] w fun x w' => x = .returned (.bool true) ∧ Below w.heap.size w w' := by
  have hbb : ∀ o o', Below w.heap.size w ((w.alloc o).alloc o') := fun o o' => ((Below.refl _ _).alloc (Nat.le_refl _) _).alloc (by simp) _
  have HBB := Lib.hid hbb
  obtain ⟨xa, xc, rfl⟩ := h1.form
  obtain ⟨ya, yc, rfl⟩ := h2.form
  rw [V.l_mk] at h1 h2
  rw [V.l_mk, V.l_mk]
  have H1 := Lib.hid h1
  have H2 := Lib.hid h2
  clear hbb h1 h2
  obtain ⟨F, hF⟩ : ∃ F, canonN f = F := ⟨_, rfl⟩
  obtain ⟨G, hG⟩ : ∃ G, canonN g = G := ⟨_, rfl⟩
  have hFG := floats_bits hf hg
  have hcf := canonN_lt hf
  have hcg := canonN_lt hg
  rw [hF] at hFG hcf
  rw [hG] at hFG hcg
  have HEF := Lib.hid hF
  have HEG := Lib.hid hG
  have hFI : (floatsI F G == 0) = decide (F = G) := by
    by_cases h : F = G
    · rw [decide_eq_true h]; simpa using hFG.2 h
    · rw [decide_eq_false h]; simpa using fun e => h (hFG.1 e)
  have hFB : ((F : Int) == (G : Int)) = decide (F = G) := by
    by_cases h : F = G
    · subst h; simp
    · rw [decide_eq_false h]; simp; omega
  have HM := Lib.hid (like_flt c s n e F G)
  rw [hFI] at HM
  have HW := Lib.hid (And.intro hcf hcg)
  clear hF hG hf hg hFG hFI hcf hcg
  generalize decide (F = G) = d at HM hFB
  cases hl1 : (V.mk k1 i1 f1 s1 l1).light
  · have HL1 := Lib.hid hl1
    clear hl1
    go_enter Try.func3, Try.ntmps3
    go_wp2_with fail
    refine (known_c _).mono ?_
    rintro e w1 ⟨rfl, hb1⟩
    have HB1 := Lib.hid ((HBB.out _ _).trans (hb1.mono (by simp; omega)))
    obtain ⟨⟨a0, a1, a2, a3, a4, a5, a6, a7, a8⟩, _⟩ := cells_of_block9 (block_below hb1 (block_below (alloc_below _ _) BV.new))
    have V1 := Lib.hid (H1.out.below HB1.out)
    clear hb1
    go_wp2_with fail
    refine (light_c (.mk k1 i1 f1 s1 l1) _ _ _ V1.out).mono ?_
    rintro e w2 ⟨rfl, hb2⟩
    rw [HL1.out]
    have HB2 := Lib.hid (HB1.out.trans (hb2.mono HB1.out.size))
    clear hb2 a0 a1 a2 a3 a4 a5 a6 a7 a8
    go_wp2_with fail
    go_ret
    exact ⟨rfl, HB2.out⟩
  · have HL1 := Lib.hid hl1
    clear hl1
    cases hl2 : (V.mk k2 i2 f2 s2 l2).light
    · have HL2 := Lib.hid hl2
      clear hl2
      go_enter Try.func3, Try.ntmps3
      go_wp2_with fail
      refine (known_c _).mono ?_
      rintro e w1 ⟨rfl, hb1⟩
      have HB1 := Lib.hid ((HBB.out _ _).trans (hb1.mono (by simp; omega)))
      have hA := block_below hb1 (block_below (alloc_below _ _) BV.new)
      have hB := block_below hb1 BV.new2
      obtain ⟨⟨a0, a1, a2, a3, a4, a5, a6, a7, a8⟩, _⟩ := cells_of_block9 hA
      have HB' := Lib.hid hB
      have V1 := Lib.hid (H1.out.below HB1.out)
      have V2 := Lib.hid (H2.out.below HB1.out)
      clear hb1 hA hB
      go_wp2_with fail
      refine (light_c (.mk k1 i1 f1 s1 l1) _ _ _ V1.out).mono ?_
      rintro e w2 ⟨rfl, hb2⟩
      rw [HL1.out]
      have HB2 := Lib.hid (HB1.out.trans (hb2.mono HB1.out.size))
      obtain ⟨⟨b0, b1, b2, b3, b4, b5, b6, b7, b8⟩, _⟩ := cells_of_block9 (block_below hb2 HB'.out)
      have V2' := Lib.hid (V2.out.below hb2)
      clear hb2 a0 a1 a2 a3 a4 a5 a6 a7 a8
      go_wp2_with fail
      refine (light_c (.mk k2 i2 f2 s2 l2) _ _ _ V2'.out).mono ?_
      rintro e w3 ⟨rfl, hb3⟩
      rw [HL2.out]
      have HB3 := Lib.hid (HB2.out.trans (hb3.mono HB2.out.size))
      clear hb3 b0 b1 b2 b3 b4 b5 b6 b7 b8
      go_wp2_with fail
      go_ret
      exact ⟨rfl, HB3.out⟩
    · have HL2 := Lib.hid hl2
      clear hl2
      cases same
      · go_enter Try.func3, Try.ntmps3
        go_wp2_with fail
        refine (known_c _).mono ?_
        rintro e w1 ⟨rfl, hb1⟩
        have HB1 := Lib.hid ((HBB.out _ _).trans (hb1.mono (by simp; omega)))
        have hA := block_below hb1 (block_below (alloc_below _ _) BV.new)
        have hB := block_below hb1 BV.new2
        obtain ⟨⟨a0, a1, a2, a3, a4, a5, a6, a7, a8⟩, _⟩ := cells_of_block9 hA
        have HA' := Lib.hid hA
        have HB' := Lib.hid hB
        have V1 := Lib.hid (H1.out.below HB1.out)
        have V2 := Lib.hid (H2.out.below HB1.out)
        clear hb1 hA hB
        go_wp2_with fail
        refine (light_c (.mk k1 i1 f1 s1 l1) _ _ _ V1.out).mono ?_
        rintro e w2 ⟨rfl, hb2⟩
        rw [HL1.out]
        have HB2 := Lib.hid (HB1.out.trans (hb2.mono HB1.out.size))
        have HA2 := Lib.hid (block_below hb2 HA'.out)
        have HB'2 := Lib.hid (block_below hb2 HB'.out)
        obtain ⟨⟨b0, b1, b2, b3, b4, b5, b6, b7, b8⟩, _⟩ := cells_of_block9 HB'2.out
        have V1' := Lib.hid (V1.out.below hb2)
        have V2' := Lib.hid (V2.out.below hb2)
        clear hb2 a0 a1 a2 a3 a4 a5 a6 a7 a8 V1 V2 HA' HB'
        go_wp2_with fail
        refine (light_c (.mk k2 i2 f2 s2 l2) _ _ _ V2'.out).mono ?_
        rintro e w3 ⟨rfl, hb3⟩
        rw [HL2.out]
        have HB3 := Lib.hid (HB2.out.trans (hb3.mono HB2.out.size))
        have HA3 := Lib.hid (block_below hb3 HA2.out)
        have HB'3 := Lib.hid (block_below hb3 HB'2.out)
        obtain ⟨⟨a0, a1, a2, a3, a4, a5, a6, a7, a8⟩, _⟩ := cells_of_block9 HA3.out
        have V1 := Lib.hid (V1'.out.below hb3)
        have V2 := Lib.hid (V2'.out.below hb3)
        clear hb3 b0 b1 b2 b3 b4 b5 b6 b7 b8 V1' V2' HA2 HB'2
        go_wp2_with fail
        have hz3 : w.heap.size < w3.heap.size := World.block_lt_of_cell? _ _ a0
        have hz4 : w.heap.size + 1 < w3.heap.size := BV.lt HB'3.out
        have hz5 : w3.heap.size ≠ w.heap.size := by omega
        have hz6 : w3.heap.size + 1 ≠ w.heap.size := by omega
        go_region
        all_goals
          have hP : Hid (Below w3.heap.size w3 ((w3.alloc (.cells #[.int .u32 c, .int .u32 s, .int .u16 n, .int .i64 e, .int .i64 k1, .int .i64 i1, .float .f64 f1, .string s1, .slice xa l1.length xc] 32)).alloc (.cells #[.int .u32 c, .int .u32 s, .int .u16 n, .int .i64 e, .int .i64 k1, .int .i64 i1, .float .f64 f1, .string s1, .slice xa l1.length xc] 32)).drew ∧
            BV ((w3.alloc (.cells #[.int .u32 c, .int .u32 s, .int .u16 n, .int .i64 e, .int .i64 k1, .int .i64 i1, .float .f64 f1, .string s1, .slice xa l1.length xc] 32)).alloc (.cells #[.int .u32 c, .int .u32 s, .int .u16 n, .int .i64 e, .int .i64 k1, .int .i64 i1, .float .f64 f1, .string s1, .slice xa l1.length xc] 32)).drew w3.heap.size c s n e k1 i1 f1 s1 (.slice xa l1.length xc) ∧
            BV ((w3.alloc (.cells #[.int .u32 c, .int .u32 s, .int .u16 n, .int .i64 e, .int .i64 k1, .int .i64 i1, .float .f64 f1, .string s1, .slice xa l1.length xc] 32)).alloc (.cells #[.int .u32 c, .int .u32 s, .int .u16 n, .int .i64 e, .int .i64 k1, .int .i64 i1, .float .f64 f1, .string s1, .slice xa l1.length xc] 32)).drew (w3.heap.size + 1) c s n e k1 i1 f1 s1 (.slice xa l1.length xc)) :=
            Lib.hid ⟨(((Below.refl _ _).alloc (Nat.le_refl _) _).alloc (by simp) _).drew, block_below (alloc_below _ _).drew BV.new, BV.new2⟩
          revert hP
          generalize World.drew _ = w4
          intro hP
        obtain ⟨p, hp⟩ : ∃ p, p = w3.heap.size := ⟨_, rfl⟩
        obtain ⟨q, hq⟩ : ∃ q, q = w3.heap.size + 1 := ⟨_, rfl⟩
        rw [← hq, ← hp] at hP
        rw [← hq, ← hp]
        have HF : Hid (Below w3.heap.size w3 w4 ∧ BV w4 p c s n e k1 i1 f1 s1 (.slice xa l1.length xc) ∧ BV w4 q c s n e k1 i1 f1 s1 (.slice xa l1.length xc) ∧ w3.heap.size ≤ p ∧ w3.heap.size ≤ q ∧ p ≠ q) := Lib.hid ⟨by rw [← hp]; exact hP.out.1, hP.out.2.1, hP.out.2.2, by omega, by omega, by omega⟩
        rotate_left
        obtain ⟨p, hp⟩ : ∃ p, p = w3.heap.size + 1 := ⟨_, rfl⟩
        obtain ⟨q, hq⟩ : ∃ q, q = w3.heap.size := ⟨_, rfl⟩
        rw [← hp, ← hq] at hP
        rw [← hp, ← hq]
        have HF : Hid (Below w3.heap.size w3 w4 ∧ BV w4 p c s n e k1 i1 f1 s1 (.slice xa l1.length xc) ∧ BV w4 q c s n e k1 i1 f1 s1 (.slice xa l1.length xc) ∧ w3.heap.size ≤ p ∧ w3.heap.size ≤ q ∧ p ≠ q) := Lib.hid ⟨by rw [← hq]; exact hP.out.1, hP.out.2.2, hP.out.2.1, by omega, by omega, by omega⟩
        all_goals
          clear hP hp hq
          have hA4 := block_below HF.out.1 HA3.out
          have hB4 := block_below HF.out.1 HB'3.out
          have V14 := Lib.hid (V1.out.below HF.out.1)
          have V24 := Lib.hid (V2.out.below HF.out.1)
          have HB4 := Lib.hid (HB3.out.trans (HF.out.1.mono HB3.out.size))
          clear a0 a1 a2 a3 a4 a5 a6 a7 a8
          go_wp2_with fail
          refine (float_c f _).mono ?_
          rintro e w5 ⟨rfl, hb5⟩
          rw [HEF.out]
          go_wp2_with fail
          refine (float_c g _).mono ?_
          rintro e w6 ⟨rfl, hb6⟩
          rw [HEG.out]
          have hb46 := hb5.trans (hb6.mono hb5.size)
          have hA6 := block_below hb46 hA4
          have hB6 := block_below hb46 hB4
          have hP6 := block_below hb46 HF.out.2.1
          have hQ6 := block_below hb46 HF.out.2.2.1
          have hpq := HF.out.2.2.2.2.2
          have V16 := V14.out.below hb46
          have V26 := V24.out.below hb46
          obtain ⟨⟨p0, p1, p2, p3, p4, p5, p6, p7, p8⟩, pf⟩ := cells_of_block9 hP6
          obtain ⟨⟨q0, q1, q2, q3, q4, q5, q6, q7, q8⟩, qf⟩ := cells_of_block9 hQ6
          have hqp : q ≠ p := fun e => hpq e.symm
          have hHP := HF.out.2.2.2.1
          have hHQ := HF.out.2.2.2.2.1
          have hX : Hid (BV (set5 (set5 w6 p 2 0 F ⟨#[]⟩ (.slice none 0 0)) q 2 0 G ⟨#[]⟩ (.slice none 0 0)) p c s n e 2 0 F ⟨#[]⟩ (.slice none 0 0) ∧
              BV (set5 (set5 w6 p 2 0 F ⟨#[]⟩ (.slice none 0 0)) q 2 0 G ⟨#[]⟩ (.slice none 0 0)) q c s n e 2 0 G ⟨#[]⟩ (.slice none 0 0) ∧
              BV (set5 (set5 w6 p 2 0 F ⟨#[]⟩ (.slice none 0 0)) q 2 0 G ⟨#[]⟩ (.slice none 0 0)) w.heap.size c s n e k1 i1 f1 s1 (.slice xa l1.length xc) ∧
              BV (set5 (set5 w6 p 2 0 F ⟨#[]⟩ (.slice none 0 0)) q 2 0 G ⟨#[]⟩ (.slice none 0 0)) (w.heap.size + 1) c' s' n' e' k2 i2 f2 s2 (.slice ya l2.length yc) ∧
              Below w3.heap.size w4 (set5 (set5 w6 p 2 0 F ⟨#[]⟩ (.slice none 0 0)) q 2 0 G ⟨#[]⟩ (.slice none 0 0))) := by
            refine Lib.hid ⟨?_, ?_, ?_, ?_, ?_⟩
            · exact (heap_set5 hpq).trans (BV.set hP6 _ _ _ _ _)
            · exact BV.set ((heap_set5 hqp).trans hQ6) _ _ _ _ _
            · exact (heap_set5 (by omega)).trans ((heap_set5 (by omega)).trans hA6)
            · exact (heap_set5 (by omega)).trans ((heap_set5 (by omega)).trans hB6)
            · exact below_set5 (below_set5 (hb46.mono HF.out.1.size) hHP) hHQ
          clear hP6 hQ6 hA6 hB6 hA4 hB4 hb5 hb6 hb46
          go_wp2_with fail
          replace hX := hX.out
          dsimp only [set5, BV] at hX
          replace hX := Lib.hid hX
          revert hX
          generalize hw7 : World.setCell _ _ _ = w7
          intro hX
          clear hw7 p0 p1 p2 p3 p4 p5 p6 p7 p8 pf q0 q1 q2 q3 q4 q5 q6 q7 q8 qf
          have hb37 := HF.out.1.trans hX.out.2.2.2.2
          have V17 := Lib.hid (V1.out.below hb37)
          have V27 := Lib.hid (V2.out.below hb37)
          have HB7 := Lib.hid (HB3.out.trans (hb37.mono HB3.out.size))
          obtain ⟨⟨p0, p1, p2, p3, p4, p5, p6, p7, p8⟩, _⟩ := cells_of_block9 hX.out.1
          obtain ⟨⟨q0, q1, q2, q3, q4, q5, q6, q7, q8⟩, _⟩ := cells_of_block9 hX.out.2.1
          obtain ⟨⟨a0, a1, a2, a3, a4, a5, a6, a7, a8⟩, _⟩ := cells_of_block9 hX.out.2.2.1
          obtain ⟨⟨b0, b1, b2, b3, b4, b5, b6, b7, b8⟩, _⟩ := cells_of_block9 hX.out.2.2.2.1
          have lp := lt_of_block hX.out.1
          have lq := lt_of_block hX.out.2.1
          have la := lt_of_block hX.out.2.2.1
          have lb := lt_of_block hX.out.2.2.2.1
          generalize hr : (idEq c s n c' s' n' && (e == e' && (V.mk k1 i1 f1 s1 l1).ord (.mk k2 i2 f2 s2 l2) == 0)) = r
          have HR := Lib.hid hr
          clear hr
          have HL := Lib.hid (like_self c s n e (.mk k1 i1 f1 s1 l1))
          clear hX
          clear HA3 HB'3 V1 V2 hz3 hz4 hz5 hz6 HF V14 V24 HB4 hpq V16 V26 hqp hHP hHQ hb37 H1 H2 HL1 HL2 HB1 HB2 HB3
          have C1 := Lib.hid (show ∀ w', Held w7 w' → Calls Try.prog 10 #[.agg #[.int .u32 c, .int .u32 s, .int .u16 n, .int .i64 e, .int .i64 k1, .int .i64 i1, .float .f64 f1, .string s1, .slice xa l1.length xc], .agg #[.int .u32 c', .int .u32 s', .int .u16 n', .int .i64 e', .int .i64 k2, .int .i64 i2, .float .f64 f2, .string s2, .slice ya l2.length yc]] w' fun e w'' => e = .returned (.bool r) ∧ Below w'.heap.size w' w'' from fun w' hw => by rw [← HR.out]; exact alike2_c c s n e (.mk k1 i1 f1 s1 l1) _ c' s' n' e' (.mk k2 i2 f2 s2 l2) _ _ D E (V17.out.held hw) (V27.out.held hw))
          have C2 := Lib.hid (show ∀ w', Held w7 w' → Calls Try.prog 11 #[.agg #[.int .u32 c, .int .u32 s, .int .u16 n, .int .i64 e, .int .i64 k1, .int .i64 i1, .float .f64 f1, .string s1, .slice xa l1.length xc], .agg #[.int .u32 c', .int .u32 s', .int .u16 n', .int .i64 e', .int .i64 k2, .int .i64 i2, .float .f64 f2, .string s2, .slice ya l2.length yc]] w' fun e w'' => e = .returned (.bool r) ∧ Below w'.heap.size w' w'' from fun w' hw => by rw [← HR.out]; exact alike1_c c s n e (.mk k1 i1 f1 s1 l1) _ c' s' n' e' (.mk k2 i2 f2 s2 l2) _ _ D E (V17.out.held hw) (V27.out.held hw))
          have C3 := Lib.hid (show ∀ w', Held w7 w' → Calls Try.prog 10 #[.agg #[.int .u32 c, .int .u32 s, .int .u16 n, .int .i64 e, .int .i64 k1, .int .i64 i1, .float .f64 f1, .string s1, .slice xa l1.length xc], .agg #[.int .u32 c, .int .u32 s, .int .u16 n, .int .i64 e, .int .i64 k1, .int .i64 i1, .float .f64 f1, .string s1, .slice xa l1.length xc]] w' fun e w'' => e = .returned (.bool true) ∧ Below w'.heap.size w' w'' from fun w' hw => by rw [← HL.out]; exact alike2_c c s n e (.mk k1 i1 f1 s1 l1) _ c s n e (.mk k1 i1 f1 s1 l1) _ _ D D (V17.out.held hw) (V17.out.held hw))
          have C4 := Lib.hid (show ∀ w', Held w7 w' → Calls Try.prog 10 #[.agg #[.int .u32 c, .int .u32 s, .int .u16 n, .int .i64 e, .int .i64 2, .int .i64 0, .float .f64 F, .string ⟨#[]⟩, .slice none 0 0], .agg #[.int .u32 c, .int .u32 s, .int .u16 n, .int .i64 e, .int .i64 2, .int .i64 0, .float .f64 G, .string ⟨#[]⟩, .slice none 0 0]] w' fun e w'' => e = .returned (.bool d) ∧ Below w'.heap.size w' w'' from fun w' hw => by rw [← HM.out]; exact alike2_c c s n e (V.flt F) _ c s n e (V.flt G) _ _ (fun _ => True) (fun _ => True) (VIn.flt HW.out.1) (VIn.flt HW.out.2))
          clear HL HR HM V17 V27
          go_region_held3 (fun w' => Held w7 w') (first | assumption | exact Held.start | exact Held.keep hbx (by assumption))
            (first | (go_at_call 10; with_reducible refine (C1.out _ (by assumption)).mono ?_; rintro x wx ⟨rfl, hbx⟩) | (go_at_call 11; with_reducible refine (C2.out _ (by assumption)).mono ?_; rintro x wx ⟨rfl, hbx⟩) | (go_at_call 10; with_reducible refine (C3.out _ (by assumption)).mono ?_; rintro x wx ⟨rfl, hbx⟩) | (go_at_call 10; with_reducible refine (C4.out _ (by assumption)).mono ?_; rintro x wx ⟨rfl, hbx⟩) | (go_at_call 12; with_reducible refine (bits1_c f _).mono ?_; rintro x wx ⟨rfl, rfl⟩; rw [HEF.out]) | (go_at_call 12; with_reducible refine (bits1_c g _).mono ?_; rintro x wx ⟨rfl, rfl⟩; rw [HEG.out]))
          go_wp2_with fail
          go_ret
          exact ⟨rfl, HB7.out.trans ((by assumption : Held _ _).2.mono HB7.out.size)⟩
      · go_enter Try.func3, Try.ntmps3
        go_wp2_with fail
        refine (known_c _).mono ?_
        rintro e w1 ⟨rfl, hb1⟩
        have HB1 := Lib.hid ((HBB.out _ _).trans (hb1.mono (by simp; omega)))
        have hA := block_below hb1 (block_below (alloc_below _ _) BV.new)
        have hB := block_below hb1 BV.new2
        obtain ⟨⟨a0, a1, a2, a3, a4, a5, a6, a7, a8⟩, _⟩ := cells_of_block9 hA
        have HA' := Lib.hid hA
        have HB' := Lib.hid hB
        have V1 := Lib.hid (H1.out.below HB1.out)
        have V2 := Lib.hid (H2.out.below HB1.out)
        clear hb1 hA hB
        go_wp2_with fail
        refine (light_c (.mk k1 i1 f1 s1 l1) _ _ _ V1.out).mono ?_
        rintro e w2 ⟨rfl, hb2⟩
        rw [HL1.out]
        have HB2 := Lib.hid (HB1.out.trans (hb2.mono HB1.out.size))
        have HA2 := Lib.hid (block_below hb2 HA'.out)
        have HB'2 := Lib.hid (block_below hb2 HB'.out)
        obtain ⟨⟨b0, b1, b2, b3, b4, b5, b6, b7, b8⟩, _⟩ := cells_of_block9 HB'2.out
        have V1' := Lib.hid (V1.out.below hb2)
        have V2' := Lib.hid (V2.out.below hb2)
        clear hb2 a0 a1 a2 a3 a4 a5 a6 a7 a8 V1 V2 HA' HB'
        go_wp2_with fail
        refine (light_c (.mk k2 i2 f2 s2 l2) _ _ _ V2'.out).mono ?_
        rintro e w3 ⟨rfl, hb3⟩
        rw [HL2.out]
        have HB3 := Lib.hid (HB2.out.trans (hb3.mono HB2.out.size))
        have HA3 := Lib.hid (block_below hb3 HA2.out)
        have HB'3 := Lib.hid (block_below hb3 HB'2.out)
        obtain ⟨⟨a0, a1, a2, a3, a4, a5, a6, a7, a8⟩, _⟩ := cells_of_block9 HA3.out
        have V1 := Lib.hid (V1'.out.below hb3)
        have V2 := Lib.hid (V2'.out.below hb3)
        clear hb3 b0 b1 b2 b3 b4 b5 b6 b7 b8 V1' V2' HA2 HB'2
        have hfz := fun n => (cells_of_block9 HB'3.out).2 n
        obtain ⟨⟨b0, b1, b2, b3, b4, b5, b6, b7, b8⟩, _⟩ := cells_of_block9 HB'3.out
        have hne : w.heap.size + 1 ≠ w.heap.size := by omega
        go_wp2_with fail
        have hY : Hid (BV (set9 w3 (w.heap.size + 1) c s n e k1 i1 f1 s1 (.slice xa l1.length xc)) (w.heap.size + 1) c s n e k1 i1 f1 s1 (.slice xa l1.length xc) ∧ BV (set9 w3 (w.heap.size + 1) c s n e k1 i1 f1 s1 (.slice xa l1.length xc)) w.heap.size c s n e k1 i1 f1 s1 (.slice xa l1.length xc) ∧
            Below w.heap.size w (set9 w3 (w.heap.size + 1) c s n e k1 i1 f1 s1 (.slice xa l1.length xc))) :=
          Lib.hid ⟨BV.set9 HB'3.out _ _ _ _ _ _ _ _ _, (heap_set9 (by omega)).trans HA3.out, below9 HB3.out (by omega) _ _ _ _ _ _ _ _ _⟩
        replace hY := hY.out
        dsimp only [set9, BV] at hY
        replace hY := Lib.hid hY
        revert hY
        generalize World.setCell _ _ _ = w4
        intro hY
        clear HB1 HB2 HB3 HA3 HB'3 a0 a1 a2 a3 a4 a5 a6 a7 a8 V1 V2 hfz b0 b1 b2 b3 b4 b5 b6 b7 b8
        refine (clean1_c (.mk k1 i1 f1 s1 l1) _ _ D (H1.out.below hY.out.2.2)).mono ?_
        rintro e w5 ⟨sl3, rfl, hv3, hb5⟩
        generalize (V.mk k1 i1 f1 s1 l1).clean = tc at hv3 ⊢
        obtain ⟨k3, i3, f3, s3, l3⟩ := tc
        obtain ⟨za, zc, rfl⟩ := hv3.form
        simp only [V.k_mk, V.i_mk, V.f_mk, V.s_mk, V.l_mk] at hv3 ⊢
        have hB5 := block_below hb5 hY.out.1
        have hA5 := block_below hb5 hY.out.2.1
        have HB5 := Lib.hid (hY.out.2.2.trans (hb5.mono hY.out.2.2.size))
        have hlt4 := lt_of_block hY.out.1
        obtain ⟨⟨b0, b1, b2, b3, b4, b5, b6, b7, b8⟩, hfz⟩ := cells_of_block9 hB5
        have hZ : Hid (BV (set5 w5 (w.heap.size + 1) k3 i3 f3 s3 (.slice za l3.length zc)) (w.heap.size + 1) c s n e k3 i3 f3 s3 (.slice za l3.length zc) ∧ BV (set5 w5 (w.heap.size + 1) k3 i3 f3 s3 (.slice za l3.length zc)) w.heap.size c s n e k1 i1 f1 s1 (.slice xa l1.length xc) ∧
            Below w.heap.size w (set5 w5 (w.heap.size + 1) k3 i3 f3 s3 (.slice za l3.length zc)) ∧ VIn (fun b => w4.heap.size ≤ b) (set5 w5 (w.heap.size + 1) k3 i3 f3 s3 (.slice za l3.length zc)) (.mk k3 i3 f3 s3 l3) (.slice za l3.length zc)) :=
          Lib.hid ⟨BV.set hB5 _ _ _ _ _, (heap_set5 (by omega)).trans hA5, below_set5 HB5.out (by omega), hv3.keep (fun b hb _ => heap_set5 (by omega)) (fun _ h _ => h)⟩
        clear hY hv3 hb5 hB5 hA5 HB5
        go_wp2_with fail
        replace hZ := hZ.out
        dsimp only [set5, BV] at hZ
        replace hZ := Lib.hid hZ
        revert hZ
        generalize World.setCell _ _ _ = w3
        intro hZ
        clear b0 b1 b2 b3 b4 b5 b6 b7 b8 hfz hlt4
        have HA3 : Hid (BV w3 w.heap.size c s n e k1 i1 f1 s1 (.slice xa l1.length xc)) := Lib.hid hZ.out.2.1
        have HB'3 : Hid (BV w3 (w.heap.size + 1) c s n e k3 i3 f3 s3 (.slice za l3.length zc)) := Lib.hid hZ.out.1
        have HB3 := Lib.hid hZ.out.2.2.1
        have V1 := Lib.hid (H1.out.below HB3.out)
        have V2 := Lib.hid hZ.out.2.2.2
        obtain ⟨⟨a0, a1, a2, a3, a4, a5, a6, a7, a8⟩, _⟩ := cells_of_block9 HA3.out
        clear hZ
        have hz3 : w.heap.size < w3.heap.size := World.block_lt_of_cell? _ _ a0
        have hz4 : w.heap.size + 1 < w3.heap.size := BV.lt HB'3.out
        have hz5 : w3.heap.size ≠ w.heap.size := by omega
        have hz6 : w3.heap.size + 1 ≠ w.heap.size := by omega
        go_region
        all_goals
          have hP : Hid (Below w3.heap.size w3 ((w3.alloc (.cells #[.int .u32 c, .int .u32 s, .int .u16 n, .int .i64 e, .int .i64 k1, .int .i64 i1, .float .f64 f1, .string s1, .slice xa l1.length xc] 32)).alloc (.cells #[.int .u32 c, .int .u32 s, .int .u16 n, .int .i64 e, .int .i64 k1, .int .i64 i1, .float .f64 f1, .string s1, .slice xa l1.length xc] 32)).drew ∧
            BV ((w3.alloc (.cells #[.int .u32 c, .int .u32 s, .int .u16 n, .int .i64 e, .int .i64 k1, .int .i64 i1, .float .f64 f1, .string s1, .slice xa l1.length xc] 32)).alloc (.cells #[.int .u32 c, .int .u32 s, .int .u16 n, .int .i64 e, .int .i64 k1, .int .i64 i1, .float .f64 f1, .string s1, .slice xa l1.length xc] 32)).drew w3.heap.size c s n e k1 i1 f1 s1 (.slice xa l1.length xc) ∧
            BV ((w3.alloc (.cells #[.int .u32 c, .int .u32 s, .int .u16 n, .int .i64 e, .int .i64 k1, .int .i64 i1, .float .f64 f1, .string s1, .slice xa l1.length xc] 32)).alloc (.cells #[.int .u32 c, .int .u32 s, .int .u16 n, .int .i64 e, .int .i64 k1, .int .i64 i1, .float .f64 f1, .string s1, .slice xa l1.length xc] 32)).drew (w3.heap.size + 1) c s n e k1 i1 f1 s1 (.slice xa l1.length xc)) :=
            Lib.hid ⟨(((Below.refl _ _).alloc (Nat.le_refl _) _).alloc (by simp) _).drew, block_below (alloc_below _ _).drew BV.new, BV.new2⟩
          revert hP
          generalize World.drew _ = w4
          intro hP
        obtain ⟨p, hp⟩ : ∃ p, p = w3.heap.size := ⟨_, rfl⟩
        obtain ⟨q, hq⟩ : ∃ q, q = w3.heap.size + 1 := ⟨_, rfl⟩
        rw [← hq, ← hp] at hP
        rw [← hq, ← hp]
        have HF : Hid (Below w3.heap.size w3 w4 ∧ BV w4 p c s n e k1 i1 f1 s1 (.slice xa l1.length xc) ∧ BV w4 q c s n e k1 i1 f1 s1 (.slice xa l1.length xc) ∧ w3.heap.size ≤ p ∧ w3.heap.size ≤ q ∧ p ≠ q) := Lib.hid ⟨by rw [← hp]; exact hP.out.1, hP.out.2.1, hP.out.2.2, by omega, by omega, by omega⟩
        rotate_left
        obtain ⟨p, hp⟩ : ∃ p, p = w3.heap.size + 1 := ⟨_, rfl⟩
        obtain ⟨q, hq⟩ : ∃ q, q = w3.heap.size := ⟨_, rfl⟩
        rw [← hp, ← hq] at hP
        rw [← hp, ← hq]
        have HF : Hid (Below w3.heap.size w3 w4 ∧ BV w4 p c s n e k1 i1 f1 s1 (.slice xa l1.length xc) ∧ BV w4 q c s n e k1 i1 f1 s1 (.slice xa l1.length xc) ∧ w3.heap.size ≤ p ∧ w3.heap.size ≤ q ∧ p ≠ q) := Lib.hid ⟨by rw [← hq]; exact hP.out.1, hP.out.2.2, hP.out.2.1, by omega, by omega, by omega⟩
        all_goals
          clear hP hp hq
          have hA4 := block_below HF.out.1 HA3.out
          have hB4 := block_below HF.out.1 HB'3.out
          have V14 := Lib.hid (V1.out.below HF.out.1)
          have V24 := Lib.hid (V2.out.below HF.out.1)
          have HB4 := Lib.hid (HB3.out.trans (HF.out.1.mono HB3.out.size))
          clear a0 a1 a2 a3 a4 a5 a6 a7 a8
          go_wp2_with fail
          refine (float_c f _).mono ?_
          rintro e w5 ⟨rfl, hb5⟩
          rw [HEF.out]
          go_wp2_with fail
          refine (float_c g _).mono ?_
          rintro e w6 ⟨rfl, hb6⟩
          rw [HEG.out]
          have hb46 := hb5.trans (hb6.mono hb5.size)
          have hA6 := block_below hb46 hA4
          have hB6 := block_below hb46 hB4
          have hP6 := block_below hb46 HF.out.2.1
          have hQ6 := block_below hb46 HF.out.2.2.1
          have hpq := HF.out.2.2.2.2.2
          have V16 := V14.out.below hb46
          have V26 := V24.out.below hb46
          obtain ⟨⟨p0, p1, p2, p3, p4, p5, p6, p7, p8⟩, pf⟩ := cells_of_block9 hP6
          obtain ⟨⟨q0, q1, q2, q3, q4, q5, q6, q7, q8⟩, qf⟩ := cells_of_block9 hQ6
          have hqp : q ≠ p := fun e => hpq e.symm
          have hHP := HF.out.2.2.2.1
          have hHQ := HF.out.2.2.2.2.1
          have hX : Hid (BV (set5 (set5 w6 p 2 0 F ⟨#[]⟩ (.slice none 0 0)) q 2 0 G ⟨#[]⟩ (.slice none 0 0)) p c s n e 2 0 F ⟨#[]⟩ (.slice none 0 0) ∧
              BV (set5 (set5 w6 p 2 0 F ⟨#[]⟩ (.slice none 0 0)) q 2 0 G ⟨#[]⟩ (.slice none 0 0)) q c s n e 2 0 G ⟨#[]⟩ (.slice none 0 0) ∧
              BV (set5 (set5 w6 p 2 0 F ⟨#[]⟩ (.slice none 0 0)) q 2 0 G ⟨#[]⟩ (.slice none 0 0)) w.heap.size c s n e k1 i1 f1 s1 (.slice xa l1.length xc) ∧
              BV (set5 (set5 w6 p 2 0 F ⟨#[]⟩ (.slice none 0 0)) q 2 0 G ⟨#[]⟩ (.slice none 0 0)) (w.heap.size + 1) c s n e k3 i3 f3 s3 (.slice za l3.length zc) ∧
              Below w3.heap.size w4 (set5 (set5 w6 p 2 0 F ⟨#[]⟩ (.slice none 0 0)) q 2 0 G ⟨#[]⟩ (.slice none 0 0))) := by
            refine Lib.hid ⟨?_, ?_, ?_, ?_, ?_⟩
            · exact (heap_set5 hpq).trans (BV.set hP6 _ _ _ _ _)
            · exact BV.set ((heap_set5 hqp).trans hQ6) _ _ _ _ _
            · exact (heap_set5 (by omega)).trans ((heap_set5 (by omega)).trans hA6)
            · exact (heap_set5 (by omega)).trans ((heap_set5 (by omega)).trans hB6)
            · exact below_set5 (below_set5 (hb46.mono HF.out.1.size) hHP) hHQ
          clear hP6 hQ6 hA6 hB6 hA4 hB4 hb5 hb6 hb46
          go_wp2_with fail
          replace hX := hX.out
          dsimp only [set5, BV] at hX
          replace hX := Lib.hid hX
          revert hX
          generalize hw7 : World.setCell _ _ _ = w7
          intro hX
          clear hw7 p0 p1 p2 p3 p4 p5 p6 p7 p8 pf q0 q1 q2 q3 q4 q5 q6 q7 q8 qf
          have hb37 := HF.out.1.trans hX.out.2.2.2.2
          have V17 := Lib.hid (V1.out.below hb37)
          have V27 := Lib.hid (V2.out.below hb37)
          have HB7 := Lib.hid (HB3.out.trans (hb37.mono HB3.out.size))
          obtain ⟨⟨p0, p1, p2, p3, p4, p5, p6, p7, p8⟩, _⟩ := cells_of_block9 hX.out.1
          obtain ⟨⟨q0, q1, q2, q3, q4, q5, q6, q7, q8⟩, _⟩ := cells_of_block9 hX.out.2.1
          obtain ⟨⟨a0, a1, a2, a3, a4, a5, a6, a7, a8⟩, _⟩ := cells_of_block9 hX.out.2.2.1
          obtain ⟨⟨b0, b1, b2, b3, b4, b5, b6, b7, b8⟩, _⟩ := cells_of_block9 hX.out.2.2.2.1
          have lp := lt_of_block hX.out.1
          have lq := lt_of_block hX.out.2.1
          have la := lt_of_block hX.out.2.2.1
          have lb := lt_of_block hX.out.2.2.2.1
          generalize hr : (idEq c s n c s n && (e == e && (V.mk k1 i1 f1 s1 l1).ord (.mk k3 i3 f3 s3 l3) == 0)) = r
          have HR := Lib.hid hr
          clear hr
          have HL := Lib.hid (like_self c s n e (.mk k1 i1 f1 s1 l1))
          clear hX
          clear HA3 HB'3 V1 V2 hz3 hz4 hz5 hz6 HF V14 V24 HB4 hpq V16 V26 hqp hHP hHQ hb37 H1 H2 HL1 HL2 HB3
          have C1 := Lib.hid (show ∀ w', Held w7 w' → Calls Try.prog 10 #[.agg #[.int .u32 c, .int .u32 s, .int .u16 n, .int .i64 e, .int .i64 k1, .int .i64 i1, .float .f64 f1, .string s1, .slice xa l1.length xc], .agg #[.int .u32 c, .int .u32 s, .int .u16 n, .int .i64 e, .int .i64 k3, .int .i64 i3, .float .f64 f3, .string s3, .slice za l3.length zc]] w' fun e w'' => e = .returned (.bool r) ∧ Below w'.heap.size w' w'' from fun w' hw => by rw [← HR.out]; exact alike2_c c s n e (.mk k1 i1 f1 s1 l1) _ c s n e (.mk k3 i3 f3 s3 l3) _ _ D _ (V17.out.held hw) (V27.out.held hw))
          have C2 := Lib.hid (show ∀ w', Held w7 w' → Calls Try.prog 11 #[.agg #[.int .u32 c, .int .u32 s, .int .u16 n, .int .i64 e, .int .i64 k1, .int .i64 i1, .float .f64 f1, .string s1, .slice xa l1.length xc], .agg #[.int .u32 c, .int .u32 s, .int .u16 n, .int .i64 e, .int .i64 k3, .int .i64 i3, .float .f64 f3, .string s3, .slice za l3.length zc]] w' fun e w'' => e = .returned (.bool r) ∧ Below w'.heap.size w' w'' from fun w' hw => by rw [← HR.out]; exact alike1_c c s n e (.mk k1 i1 f1 s1 l1) _ c s n e (.mk k3 i3 f3 s3 l3) _ _ D _ (V17.out.held hw) (V27.out.held hw))
          have C3 := Lib.hid (show ∀ w', Held w7 w' → Calls Try.prog 10 #[.agg #[.int .u32 c, .int .u32 s, .int .u16 n, .int .i64 e, .int .i64 k1, .int .i64 i1, .float .f64 f1, .string s1, .slice xa l1.length xc], .agg #[.int .u32 c, .int .u32 s, .int .u16 n, .int .i64 e, .int .i64 k1, .int .i64 i1, .float .f64 f1, .string s1, .slice xa l1.length xc]] w' fun e w'' => e = .returned (.bool true) ∧ Below w'.heap.size w' w'' from fun w' hw => by rw [← HL.out]; exact alike2_c c s n e (.mk k1 i1 f1 s1 l1) _ c s n e (.mk k1 i1 f1 s1 l1) _ _ D D (V17.out.held hw) (V17.out.held hw))
          have C4 := Lib.hid (show ∀ w', Held w7 w' → Calls Try.prog 10 #[.agg #[.int .u32 c, .int .u32 s, .int .u16 n, .int .i64 e, .int .i64 2, .int .i64 0, .float .f64 F, .string ⟨#[]⟩, .slice none 0 0], .agg #[.int .u32 c, .int .u32 s, .int .u16 n, .int .i64 e, .int .i64 2, .int .i64 0, .float .f64 G, .string ⟨#[]⟩, .slice none 0 0]] w' fun e w'' => e = .returned (.bool d) ∧ Below w'.heap.size w' w'' from fun w' hw => by rw [← HM.out]; exact alike2_c c s n e (V.flt F) _ c s n e (V.flt G) _ _ (fun _ => True) (fun _ => True) (VIn.flt HW.out.1) (VIn.flt HW.out.2))
          clear HL HR HM V17 V27
          go_region_held3 (fun w' => Held w7 w') (first | assumption | exact Held.start | exact Held.keep hbx (by assumption))
            (first | (go_at_call 10; with_reducible refine (C1.out _ (by assumption)).mono ?_; rintro x wx ⟨rfl, hbx⟩) | (go_at_call 11; with_reducible refine (C2.out _ (by assumption)).mono ?_; rintro x wx ⟨rfl, hbx⟩) | (go_at_call 10; with_reducible refine (C3.out _ (by assumption)).mono ?_; rintro x wx ⟨rfl, hbx⟩) | (go_at_call 10; with_reducible refine (C4.out _ (by assumption)).mono ?_; rintro x wx ⟨rfl, hbx⟩) | (go_at_call 12; with_reducible refine (bits1_c f _).mono ?_; rintro x wx ⟨rfl, rfl⟩; rw [HEF.out]) | (go_at_call 12; with_reducible refine (bits1_c g _).mono ?_; rintro x wx ⟨rfl, rfl⟩; rw [HEG.out]))
          go_wp2_with fail
          go_ret
          exact ⟨rfl, HB7.out.trans ((by assumption : Held _ _).2.mono HB7.out.size)⟩
end Go.Proofs.Ytbncfpbaifnikaa
