/- known: the chapter's example. -/
import Derived.Test.YtoddajaepnfgnaaLa
namespace Go.Proofs.Ytoddajaepnfgnaa
open Go Go.RowKit
set_option maxRecDepth 16000
attribute [local go_sem ↓] run_store_float

theorem int1_check : (V.int 1).check = 0 := by
  simp [V.check, V.int, V.odd_mk, V.great_mk, V.size_mk, wrap64]
theorem int1_put : vput [] (V.int 1) = ([1, 0, 0, 0, 0, 0, 0, 0, 1], 0) := by
  unfold vput
  rw [if_pos int1_check]
  simp [V.int, V.bytes_mk, u64N, beB]
theorem int1_read : vread (rd true 9 [1, 0, 0, 0, 0, 0, 0, 0, 1]) = (V.mk 1 1 0 ⟨#[]⟩ [], 9, 0) := by
  rw [rd_cons]
  simp [beN, i64N, wrap64, vread, int1_check]
  rfl
theorem nine_read : vread (rd true 9 [9]) = (V.mk 0 0 0 ⟨#[]⟩ [], 0, 20) := by
  rw [rd_cons]
  simp [vread]
  rfl
theorem two_read : readU [1, 2] 2 = (258, true) := by decide
theorem ab_put : ptext [] ⟨#[97, 98]⟩ 5 = ([0, 2, 97, 98], 0) := by decide
theorem txt1 : txtB [1, 0, 0, 0, 0, 0, 0, 0, 1] = ⟨#[1, 0, 0, 0, 0, 0, 0, 0, 1]⟩ := by decide
theorem txt2 : txtB [0, 2, 97, 98] = ⟨#[0, 2, 97, 98]⟩ := by decide
theorem Bs.binB {w base sl zs} (h : Bs w base sl zs) (hz : Byt zs) (hl : zs.length ≤ 140737488355328) : ∃ a c, sl = .slice a zs.length c ∧ (zs.length ≤ c ∧ c ≤ 9223372036854775807) ∧ (a = none → c = 0) ∧ BIn w a zs := by
  obtain ⟨a, c, rfl, h1, h2, h3⟩ := h.form (by omega)
  exact ⟨a, c, rfl, ⟨h1, h2⟩, h3, h.bin hz⟩
theorem BIn.one {w : World} {b : Nat} {z : Int} {e : TypeId} (h : w.heap[b]? = some (.cells #[.int .u8 z] e)) (hz : 0 ≤ z ∧ z ≤ 255) : BIn w (some ⟨b, 0, none⟩) [z] := by
  intro j hj
  have : j = 0 := by simpa using hj
  subst this
  exact ⟨b, 0, rfl, by simp [World.cell?, h], hz⟩
theorem BIn.two {w : World} {b : Nat} {y z : Int} {e : TypeId} (h : w.heap[b]? = some (.cells #[.int .u8 y, .int .u8 z] e)) (hy : 0 ≤ y ∧ y ≤ 255) (hz : 0 ≤ z ∧ z ≤ 255) : BIn w (some ⟨b, 0, none⟩) [y, z] := by
  intro j hj
  rcases j with _ | _ | j
  · exact ⟨b, 0, rfl, by simp [World.cell?, h], hy⟩
  · exact ⟨b, 0, rfl, by simp [World.cell?, h], hz⟩
  · simp at hj; omega

theorem Read2_n {a : Option Addr} {c N : Nat} {zs : List Int} {w : World} {r : V × Int × Int} (hr : vread (rd true 9 zs) = r) (hN : zs.length = N) (hl : N ≤ 140737488355328 ∧ N ≤ c ∧ c ≤ 9223372036854775807) (hc : a = none → c = 0) (hz : BIn w a zs) :
    Calls Try.prog 13 #[.slice a N c] w (RetR w r) := by
  subst hr; subst hN
  exact Read2_c a c zs w hl hc hz
theorem readU2_n {a : Option Addr} {c N : Nat} {zs : List Int} {n : Int} {w : World} {u : Nat} {ok : Bool} (hr : readU zs n = (u, ok)) (hN : zs.length = N) (hl : N ≤ c ∧ c ≤ 9223372036854775807) (hz : BIn w a zs) :
    Calls Try.prog 19 #[.slice a N c, .int .i64 n] w fun e w' => e = .returned (.tuple #[.int .u64 u, .bool ok]) ∧ w = w' := by
  subst hN
  have := readU2_c a c zs n w hl hz
  rw [hr] at this
  exact this

set_option maxHeartbeats 1600000 in
theorem known3_c (w : World) : Calls Try.prog 9 #[] w fun e w' => e = .returned (.bool true) ∧ Below w.heap.size w w' := by
  go_enter Try.func9, Try.ntmps9
  go_wp2_with fail
  refine (int_c 1 _).mono ?_
  rintro e w1 ⟨rfl, hb1⟩
  have HB1 := Lib.hid hb1
  clear hb1
  go_wp2_with fail
  have hP := Put2_c (V.int 1) w1.heap.size none 0 [] w1 (.slice none 0 0) (fun j hj => by cases hj) (fun _ => rfl) (by simp) (Nat.le_refl _) (by simp) (VIn.int (by decide))
  rw [int1_put] at hP
  have HP := Lib.hid hP
  clear hP
  refine HP.out.mono ?_
  rintro e w2 ⟨sl2, rfl, hbs2, hb2, hat2⟩
  obtain ⟨a2, c2, rfl, hlc2, hc2, hbin2⟩ := hbs2.binB (by intro z hz; simp at hz; omega) (by simp)
  have HZ2 := Lib.hid hbin2
  have HB2 := Lib.hid (HB1.out.trans (hb2.mono HB1.out.size))
  rw [show ([1, 0, 0, 0, 0, 0, 0, 0, 1] : List Int).length = 9 from rfl] at hlc2 ⊢
  clear hbs2 hb2 hat2 hbin2 HP HB1
  go_wp2_with fail
  refine (Read2_n (N := 9) int1_read rfl ⟨by decide, hlc2⟩ hc2 HZ2.out).mono ?_
  rintro e w3 ⟨sa3, sc3, rfl, hv3, hb3⟩
  simp only [V.k_mk, V.i_mk, V.f_mk, V.s_mk, V.l_mk, List.length_nil]
  have HB3 := Lib.hid (HB2.out.trans (hb3.mono HB2.out.size))
  have HZ3 := Lib.hid (HZ2.out.below hb3)
  clear hv3 hb3 HZ2 HB2
  go_wp2_with fail
  have HBa := Lib.hid (((Below.refl w3.heap.size w3).alloc (Nat.le_refl _) (.cells #[.int .i64 1, .int .i64 1, .float .f64 0, .string ⟨#[]⟩, .slice sa3 0 sc3] 26)).alloc (by simp) (.cells #[.int .u8 9] 5))
  refine (Read2_n (N := 1) nine_read rfl ⟨by decide, by decide⟩ (fun e => by cases e) (BIn.one (block_alloc_at (w := w3.alloc (.cells #[.int .i64 1, .int .i64 1, .float .f64 0, .string ⟨#[]⟩, .slice sa3 0 sc3] 26)) (n := w3.heap.size + 1) _ (by simp)) (by omega))).mono ?_
  rintro e w4 ⟨sa4, sc4, rfl, _, hb4⟩
  simp only [V.k_mk, V.i_mk, V.f_mk, V.s_mk, V.l_mk, List.length_nil]
  have HB4 := Lib.hid (HB3.out.trans ((HBa.out.trans (hb4.mono (by simp; omega))).mono HB3.out.size))
  have HZ4 := Lib.hid ((HZ3.out.below HBa.out).below hb4)
  have HV4 := Lib.hid (block_below hb4 (block_alloc_old (.cells #[.int .u8 9] 5) (block_alloc_at (w := w3) (.cells #[.int .i64 1, .int .i64 1, .float .f64 0, .string ⟨#[]⟩, .slice sa3 0 sc3] 26) rfl)))
  clear hb4 HBa HB3 HZ3
  go_wp2_with fail
  have HBb := Lib.hid (((Below.refl w4.heap.size w4).alloc (Nat.le_refl _) (.cells #[.int .i64 0, .int .i64 0, .float .f64 0, .string ⟨#[]⟩, .slice sa4 0 sc4] 26)).alloc (by simp) (.cells #[.int .u8 1, .int .u8 2] 5))
  refine (readU2_n (N := 2) two_read rfl ⟨by decide, by decide⟩ (BIn.two (block_alloc_at (w := w4.alloc (.cells #[.int .i64 0, .int .i64 0, .float .f64 0, .string ⟨#[]⟩, .slice sa4 0 sc4] 26)) (n := w4.heap.size + 1) _ (by simp)) (by omega) (by omega))).mono ?_
  rintro e w' ⟨rfl, rfl⟩
  go_wp2_with fail
  have hT := ptext2_c (w4.heap.size + 2) none 0 [] ⟨#[97, 98]⟩ 5 ((w4.alloc (.cells #[.int .i64 0, .int .i64 0, .float .f64 0, .string ⟨#[]⟩, .slice sa4 0 sc4] 26)).alloc (.cells #[.int .u8 1, .int .u8 2] 5)) (fun j hj => by cases hj) (fun _ => rfl) (by simp) (by simp) (by simp) (by decide)
  rw [ab_put] at hT
  refine hT.mono ?_
  rintro e w5 ⟨sl5, rfl, hbs5, hb5, _⟩
  obtain ⟨a5, c5, rfl, hlc5, hc5, hbin5⟩ := hbs5.binB (by intro z hz; simp at hz; omega) (by simp)
  have hcv1 := run_convert_bin w5 a2 9 c2 [1, 0, 0, 0, 0, 0, 0, 0, 1] ((HZ4.out.below HBb.out).below hb5) rfl
  have hcv2 := run_convert_bin w5 a5 4 c5 [0, 2, 97, 98] hbin5 rfl
  rw [txt1] at hcv1
  rw [txt2] at hcv2
  rw [show ([0, 2, 97, 98] : List Int).length = 4 from rfl]
  obtain ⟨⟨_, c1, _, _, _⟩, _⟩ := cells_of_block5 (block_below hb5 (block_below HBb.out HV4.out))
  have HB5 := Lib.hid (HB4.out.trans ((HBb.out.trans (hb5.mono (by simp; omega))).mono HB4.out.size))
  clear hT hbs5 hb5 hbin5 hlc5 HZ4 HB4 HBb HV4 hlc2 hc2
  go_wp2_with fail
  go_ret
  exact ⟨rfl, HB5.out⟩
end Go.Proofs.Ytoddajaepnfgnaa
