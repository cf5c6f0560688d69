/- What is known: two of three. -/
import Derived.Test.YtbncfpbaifnikaaW
import Derived.Test.YtbncfpbaifnikaaU
namespace Go.Proofs.Ytbncfpbaifnikaa
open Go Go.RowKit
attribute [local go_sem ↓] run_store_float

theorem Rp.alike_self (r : Rp) : r.alike r = true := by
  unfold Rp.alike idEq
  rw [V.ord_self]
  simp

/-- Nought by nought is some NaN. -/
def NanB (b : Nat) : Prop := nan b = true ∧ b < 2 ^ 64
def idV : Vt := ⟨1, 1, 0, 3, 1, [], [], false, zeroR⟩
def rN : Rp := ⟨1, 1, 0, 0, 2, 0, 9221120237041090561, ⟨#[]⟩⟩
theorem cf_rN : cfR rN = rN := by
  unfold cfR
  rw [if_neg (by decide), if_pos (show rN.k = 2 from rfl)]
  show (⟨1, 1, 0, 0, 2, 0, canonN 9221120237041090561, ⟨#[]⟩⟩ : Rp) = rN
  rw [canonN_nan canon_nan]; rfl
theorem put1 : idV.put 0 rN = ⟨1, 1, 0, 3, 1, [0], [rN], false, zeroR⟩ := by
  unfold Vt.put
  rw [cf_rN]
  have : decR 2 [rN] = (zeroR, false) := by simp [decR, firstR, likeN, Rp.alike_self]
  show (⟨1, 1, 0, 3, 1, [0], [rN], (decR 2 [rN]).2, (decR 2 [rN]).1⟩ : Vt) = _
  rw [this]
theorem put2 : (⟨1, 1, 0, 3, 1, [0], [rN], false, zeroR⟩ : Vt).put 2 rN = ⟨1, 1, 0, 3, 1, [0, 2], [rN, rN], true, rN⟩ := by
  unfold Vt.put
  rw [cf_rN]
  have : decR 2 [rN, rN] = (rN, true) := by simp [decR, firstR, likeN, Rp.alike_self]
  show (⟨1, 1, 0, 3, 1, [0, 2], [rN, rN], (decR 2 [rN, rN]).2, (decR 2 [rN, rN]).1⟩ : Vt) = _
  rw [this]
theorem rN_ok : rN.ok := ⟨by decide, by decide, by decide, by decide⟩

theorem quo_run (w : World) : ∃ b, (nan b = true ∧ b < 2 ^ 64) ∧ Sem.run Try.prog (binOp .quo 27 (.float .f64 0) (.float .f64 0)) w = .ok (.float .f64 b) w.drew := by
  have hd : FloatKind.f64.format.div 0 0 = none := by decide
  refine ⟨(Question.nanBits .f64 0 0).cut (w.tape w.drawn (.nanBits .f64 0 0)), ?_, ?_⟩
  · generalize w.tape w.drawn (.nanBits .f64 0 0) = t
    have h2 : t / 2 % 4503599627370495 < 4503599627370495 := Nat.mod_lt _ (by decide)
    have h3 : t % 2 < 2 := Nat.mod_lt _ (by decide)
    have e : (Question.nanBits .f64 0 0).cut t = (t % 2) * 9223372036854775808 + 9218868437227405312 + 1 + t / 2 % 4503599627370495 := rfl
    rw [e]
    generalize t / 2 % 4503599627370495 = x at *
    generalize t % 2 = y at *
    constructor
    · apply nan_of
      unfold infB
      omega
    · omega
  · simp [binOp, Op.floatArith, hd, go_sem, Question.forced]

/-- What known holds: the vote, the id at ib, the NaN at nb. -/
structure KIn (w : World) (ib nb vb : Nat) (v : Vt) (wa la : Value) : Prop where
  vote : VoteIn w vb v wa la
  i0 : w.cell? ⟨ib, 0, none⟩ = some (.int .u32 1)
  i1 : w.cell? ⟨ib, 1, none⟩ = some (.int .u32 1)
  i2 : w.cell? ⟨ib, 2, none⟩ = some (.int .u16 0)
  n : at5 w nb 2 0 9221120237041090561 ⟨#[]⟩ (.slice none 0 0)
  ne : ib ≠ vb ∧ nb ≠ vb
  ow : wa.ownBlock ≠ some ib ∧ wa.ownBlock ≠ some nb ∧ la.ownBlock ≠ some ib ∧ la.ownBlock ≠ some nb
theorem KIn.below {w w' ib nb vb v wa la} (h : KIn w ib nb vb v wa la) (hb : Below w.heap.size w w') : KIn w' ib nb vb v wa la :=
  ⟨h.vote.below hb, keepc hb h.i0, keepc hb h.i1, keepc hb h.i2, h.n.keep hb, h.ne, h.ow⟩
theorem KIn.put {w w' ib nb vb v wa la v' wa' la'} (h : KIn w ib nb vb v wa la) (hv : VoteIn w' vb v' wa' la') (hf : VFr w w' vb wa la wa' la') : KIn w' ib nb vb v' wa' la' := by
  obtain ⟨o1, o2, o3, o4⟩ := h.ow
  obtain ⟨n0, n1, n2, n3, n4⟩ := h.n
  have p1 := hf.apart ib (World.block_lt_of_cell? _ _ h.i0) o1 o3
  have p2 := hf.apart nb (World.block_lt_of_cell? _ _ n0) o2 o4
  exact ⟨hv, hf.cell h.i0 h.ne.1 o1 o3, hf.cell h.i1 h.ne.1 o1 o3, hf.cell h.i2 h.ne.1 o1 o3,
    ⟨hf.cell n0 h.ne.2 o2 o4, hf.cell n1 h.ne.2 o2 o4, hf.cell n2 h.ne.2 o2 o4, hf.cell n3 h.ne.2 o2 o4, hf.cell n4 h.ne.2 o2 o4⟩, h.ne, p1.1, p2.1, p1.2, p2.2⟩

theorem zval : zeroR.val = .agg #[.int .u32 0, .int .u32 0, .int .u16 0, .int .i64 0, .int .i64 0, .int .i64 0, .float .f64 0, .string ⟨#[]⟩, .slice none 0 0] := rfl
theorem rNval : rN.val = .agg #[.int .u32 1, .int .u32 1, .int .u16 0, .int .i64 0, .int .i64 2, .int .i64 0, .float .f64 9221120237041090561, .string ⟨#[]⟩, .slice none 0 0] := rfl

theorem known_c (w : World) : Calls Try.prog 6 #[] w fun e w' => e = .returned (.bool true) ∧ Below w.heap.size w w' := by
  go_enter Try.func6, Try.ntmps6
  go_wp2_with fail
  refine (new_c 1 1 0 3 1 _).mono ?_
  rintro e w1 ⟨rfl, hv1, hb1⟩
  rw [show nodesI 3 = 3 by decide] at hv1
  have HV1 : Hid (VoteIn w1 (w.heap.size + 1 + 1) idV (.slice none 0 0) (.slice none 0 0)) := Lib.hid (by rw [show w.heap.size + 1 = (w.alloc (.cells #[.int .u32 1, .int .u32 1, .int .u16 0] 25)).heap.size by simp]; exact hv1)
  have HB1 := Lib.hid ((alloc_below w _).trans (hb1.mono (by simp)))
  have hi0 : w1.cell? ⟨w.heap.size, 0, none⟩ = some (.int .u32 1) := keepc hb1 (by simp)
  have hi1 : w1.cell? ⟨w.heap.size, 1, none⟩ = some (.int .u32 1) := keepc hb1 (by simp)
  have hi2 : w1.cell? ⟨w.heap.size, 2, none⟩ = some (.int .u16 0) := keepc hb1 (by simp)
  clear hv1 hb1
  go_wp2_with fail
  refine (float_c 0 _).mono ?_
  rintro e w2 ⟨rfl, hb2⟩
  go_wp2_with fail
  refine (asFloat_c (canonN 0) _).mono ?_
  rintro e w3 ⟨rfl, hb3⟩
  go_wp2_with fail
  refine (float_c 0 _).mono ?_
  rintro e w4 ⟨rfl, hb4⟩
  go_wp2_with fail
  refine (asFloat_c (canonN 0) _).mono ?_
  rintro e w5 ⟨rfl, hb5⟩
  rw [show canonN 0 = 0 by decide]
  go_wp2_with fail
  obtain ⟨b, hbn, hq⟩ := quo_run w5
  rw [hq]
  go_wp2_with fail
  refine (float_c b _).mono ?_
  rintro e w6 ⟨rfl, hb6⟩
  rw [canonN_nan hbn.1]
  clear hq hbn
  have hb16 : Below w1.heap.size w1 w6 := hb2.trans ((hb3.mono hb2.size).trans ((hb4.mono (hb2.trans (hb3.mono hb2.size)).size).trans ((hb5.mono (hb2.trans ((hb3.mono hb2.size).trans (hb4.mono (hb2.trans (hb3.mono hb2.size)).size))).size).trans (((Below.refl _ w5).drew.trans hb6).mono (hb2.trans ((hb3.mono hb2.size).trans ((hb4.mono (hb2.trans (hb3.mono hb2.size)).size).trans (hb5.mono (hb2.trans ((hb3.mono hb2.size).trans (hb4.mono (hb2.trans (hb3.mono hb2.size)).size))).size)))).size))))
  have hz16 := hb16.size
  have hv16 := HV1.out.lt
  have hk : KIn (w6.alloc (.cells #[.int .i64 2, .int .i64 0, .float .f64 9221120237041090561, .string ⟨#[]⟩, .slice none 0 0] 30)) w.heap.size w6.heap.size (w.heap.size + 1 + 1) idV (.slice none 0 0) (.slice none 0 0) :=
    ⟨(HV1.out.below hb16).below (alloc_below _ _), keepc (alloc_below _ _) (keepc hb16 hi0), keepc (alloc_below _ _) (keepc hb16 hi1), keepc (alloc_below _ _) (keepc hb16 hi2), at5.new, ⟨by omega, by omega⟩, by simp [Value.ownBlock]⟩
  have HB7 := Lib.hid (HB1.out.trans ((hb16.trans ((alloc_below w6 (.cells #[.int .i64 2, .int .i64 0, .float .f64 9221120237041090561, .string ⟨#[]⟩, .slice none 0 0] 30)).mono hz16)).mono HB1.out.size))
  obtain ⟨hkv, j0, j1, j2, ⟨n0, n1, n2, n3, n4⟩, hkn, hko⟩ := id hk
  clear hkv hkn hko
  have HK := Lib.hid hk
  clear hk hb16 hz16 hv16 hi0 hi1 hi2 hb2 hb3 hb4 hb5 hb6
  go_wp2_with fail
  refine (put_ok _ idV _ _ 0 rN _ HK.out.vote ⟨rfl, rfl, rfl⟩ rN_ok (by decide) (by decide) (by decide) (by simp [idV]) (by decide) (by decide) (by simp [idV])).mono ?_
  rintro e w8 ⟨wa8, la8, rfl, hv8, hf8⟩
  rw [put1] at hv8
  have hk8 := HK.out.put hv8 hf8
  have hb8 := HB7.out.trans (hf8.below.mono (by omega))
  generalize hw7 : w6.alloc _ = w7 at *
  clear hw7 j0 j1 j2 n0 n1 n2 n3 n4 HK HB7 hv8 hf8
  have HK8 := Lib.hid hk8
  have HB8 := Lib.hid hb8
  clear hk8 hb8
  go_wp2_with fail
  refine (result_no _ _ _ _ _ HK8.out.vote rfl).mono ?_
  rintro e w9 ⟨rfl, hb9⟩
  rw [zval]
  have hk10 := (HK8.out.below hb9).below (alloc_below w9 (.cells #[.int .u32 0, .int .u32 0, .int .u16 0, .int .i64 0, .int .i64 0, .int .i64 0, .float .f64 0, .string ⟨#[]⟩, .slice none 0 0] 32))
  have hb10 := HB8.out.trans ((hb9.trans ((alloc_below w9 (.cells #[.int .u32 0, .int .u32 0, .int .u16 0, .int .i64 0, .int .i64 0, .int .i64 0, .float .f64 0, .string ⟨#[]⟩, .slice none 0 0] 32)).mono hb9.size)).mono HB8.out.size)
  clear hb9
  have HB10 := Lib.hid hb10
  obtain ⟨hkv, j0, j1, j2, ⟨n0, n1, n2, n3, n4⟩, hkn, hko⟩ := id hk10
  clear hkv hkn hko hb10
  have HK10 := Lib.hid hk10
  clear hk10
  go_wp2_with fail
  refine (put_ok _ ⟨1, 1, 0, 3, 1, [0], [rN], false, zeroR⟩ _ _ 2 rN _ HK10.out.vote ⟨rfl, rfl, rfl⟩ rN_ok (by decide) (by decide) (by decide) (by simp) (by decide) (by decide) (by simp [rN_ok])).mono ?_
  rintro e w11 ⟨wa11, la11, rfl, hv11, hf11⟩
  rw [put2] at hv11
  have hk11 := HK10.out.put hv11 hf11
  have hb11 := HB10.out.trans (hf11.below.mono (by omega))
  clear j0 j1 j2 n0 n1 n2 n3 n4 HK10 HB10 hv11 hf11
  have HK11 := Lib.hid hk11
  have HB11 := Lib.hid hb11
  clear hk11 hb11
  go_wp2_with fail
  refine (result_yes _ _ _ _ _ HK11.out.vote rfl (by decide)).mono ?_
  rintro e w12 ⟨rfl, hb12⟩
  rw [show cfR (Vt.res ⟨1, 1, 0, 3, 1, [0, 2], [rN, rN], true, rN⟩) = rN from cf_rN, rNval]
  have hk13 := (HK11.out.below hb12).below (alloc_below w12 (.cells #[.int .u32 1, .int .u32 1, .int .u16 0, .int .i64 0, .int .i64 2, .int .i64 0, .float .f64 9221120237041090561, .string ⟨#[]⟩, .slice none 0 0] 32))
  have hb13 := HB11.out.trans ((hb12.trans ((alloc_below w12 (.cells #[.int .u32 1, .int .u32 1, .int .u16 0, .int .i64 0, .int .i64 2, .int .i64 0, .float .f64 9221120237041090561, .string ⟨#[]⟩, .slice none 0 0] 32)).mono hb12.size)).mono HB11.out.size)
  clear hb12
  have HB13 := Lib.hid hb13
  obtain ⟨hkv, j0, j1, j2, hn, hkn, hko⟩ := id hk13
  clear hkv hn hkn hko hb13
  have HK13 := Lib.hid hk13
  clear hk13
  go_wp2_with fail
  refine (count_c _ _ _ _ _ HK13.out.vote).mono ?_
  rintro e w14 ⟨rfl, rfl⟩
  simp only [List.length_cons, List.length_nil]
  go_wp2_with fail
  refine (put_dup _ _ _ _ 2 ⟨1, 1, 0, 0, 0, 0, 0, ⟨#[]⟩⟩ _ HK13.out.vote ⟨rfl, rfl, rfl⟩ (by decide) (by decide) (by simp) (by decide)).mono ?_
  rintro e w15 ⟨wa15, la15, rfl, hv15, hf15⟩
  have HB15 := Lib.hid (HB13.out.trans (hf15.below.mono (by omega)))
  have HV15 := Lib.hid hv15
  clear hv15 hf15 j0 j1 j2
  go_wp2_with fail
  refine (put_id _ _ _ _ 1 zeroR _ HV15.out (by decide)).mono ?_
  rintro e w16 ⟨wa16, la16, rfl, hv16, hf16⟩
  have HB16 := Lib.hid (HB15.out.trans (hf16.below.mono (by omega)))
  clear hv16 hf16
  go_wp2_with fail
  go_ret
  exact ⟨rfl, HB16.out⟩
end Go.Proofs.Ytbncfpbaifnikaa
