/- The known call, there and back. -/
import Derived.Test.YtkhgbbloeeaceaaFi
import Derived.Test.YtkhgbbloeeaceaaGa
namespace Go.Proofs.Ytkhgbbloeeaceaa
open Go Go.RowKit
set_option maxRecDepth 16000

theorem vrd_put {t : V} (hok : V.Ok t) (h : t.check = 0) (m : List Int) : vrd (t.bytes ++ m) = some (t.clean, t.bytes.length) := by
  have h1 := vread_put hok h m
  rw [vread_vrd] at h1
  cases hx : vrd (t.bytes ++ m) with
  | none => rw [hx] at h1; simp at h1
  | some p =>
    obtain ⟨v, n⟩ := p
    rw [hx] at h1
    simp only [Prod.mk.injEq] at h1
    obtain ⟨rfl, h2, _⟩ := h1
    congr 2
    omega
theorem items_put : ∀ (l : List V) (m : List Int), (∀ t ∈ l, V.Ok t) → chk l = 0 → rdItems vrd l.length (l.flatMap V.bytes ++ m) = some (l.map V.clean, (l.flatMap V.bytes).length)
  | [], m, _, _ => rfl
  | t :: ts, m, hok, hk => by
    have h1 := chk_mem hk t (List.mem_cons_self ..)
    have h2 : chk ts = 0 := by rw [chk, if_pos h1] at hk; exact hk
    rw [List.length_cons, rdItems, List.flatMap_cons, List.append_assoc, vrd_put (hok t (List.mem_cons_self ..)) h1]
    simp only
    rw [List.drop_left, items_put ts m (fun x hx => hok x (List.mem_cons_of_mem _ hx)) h2]
    simp
theorem be_small (v k : Nat) (h : v < 256 ^ k) : beN (beB v k) = v := by rw [beN_beB]; exact Nat.mod_eq_of_lt h
theorem id_put {c s n : Nat} (hi : c < 4294967296 ∧ s < 4294967296 ∧ n < 65536) (m : List Int) : idc (idB c s n ++ m) = c ∧ ids (idB c s n ++ m) = s ∧ idn (idB c s n ++ m) = n := by
  have e : idB c s n ++ m = beB c 4 ++ (beB s 4 ++ (beB n 2 ++ m)) := by simp [idB, List.append_assoc]
  rw [e]
  refine ⟨?_, ?_, ?_⟩
  · unfold idc; rw [take_beB]; exact be_small c 4 hi.1
  · unfold ids; rw [drop_beB, take_beB]; exact be_small s 4 hi.2.1
  · unfold idn
    rw [show (8 : Nat) = 4 + 4 from rfl, ← List.drop_drop, drop_beB, drop_beB, take_beB]
    exact be_small n 2 hi.2.2
theorem ord_put {c s n : Nat} {g m : ByteArray} {l : List V} (hi : c < 4294967296 ∧ s < 4294967296 ∧ n < 65536) (hg : g.size ≤ 32) (hm : m.size ≤ 32) (hl : l.length ≤ 16) (hk : chk l = 0) (hok : ∀ t ∈ l, V.Ok t) (more : List Int) :
    ord (obytes c s n g m l ++ more) = some (⟨c, s, n, g, m, l.map V.clean⟩, (obytes c s n g m l).length) := by
  have e : obytes c s n g m l ++ more = idB c s n ++ (txtP g ++ (txtP m ++ ((l.length : Int) :: (l.flatMap V.bytes ++ more)))) := by simp [obytes, List.append_assoc]
  have d1 : (obytes c s n g m l ++ more).drop 10 = txtP g ++ (txtP m ++ ((l.length : Int) :: (l.flatMap V.bytes ++ more))) := by
    rw [e]; conv => lhs; arg 1; rw [← idB_length c s n]
    exact List.drop_left
  have d2 : (obytes c s n g m l ++ more).drop (12 + g.size) = txtP m ++ ((l.length : Int) :: (l.flatMap V.bytes ++ more)) := by
    rw [show 12 + g.size = 10 + (txtP g).length by rw [txtP_length]; omega, ← List.drop_drop, d1]
    exact List.drop_left
  have d3 : (obytes c s n g m l ++ more).drop (14 + g.size + m.size) = (l.length : Int) :: (l.flatMap V.bytes ++ more) := by
    rw [show 14 + g.size + m.size = (12 + g.size) + (txtP m).length by rw [txtP_length]; omega, ← List.drop_drop, d2]
    exact List.drop_left
  have hlen : (obytes c s n g m l ++ more).length = 10 + (2 + g.size) + (2 + m.size) + 1 + (l.flatMap V.bytes).length + more.length := by
    rw [e]; simp only [List.length_append, List.length_cons, txtP_length, idB_length]; omega
  obtain ⟨i1, i2, i3⟩ := id_put hi (txtP g ++ (txtP m ++ ((l.length : Int) :: (l.flatMap V.bytes ++ more))))
  rw [← e] at i1 i2 i3
  rw [ord_args (g := g) (m := m) (u := g.size) (v := m.size) (by omega) (by rw [d1]; exact rtext_put _ (by omega) (by omega)) (by rw [d2]; exact rtext_put _ (by omega) (by omega)), d3, i1, i2, i3,
    oargs_yes (by omega) (items_put l more hok hk)]
  congr 2
  simp only [obytes, List.length_append, List.length_cons, txtP_length, idB_length]
  omega
theorem rrd_put {c s n e : Nat} {t : V} (hi : c < 4294967296 ∧ s < 4294967296 ∧ n < 65536) (he : e < 65536) (hok : V.Ok t) (hk : t.check = 0) (more : List Int) :
    rrd (idB c s n ++ beB e 2 ++ t.bytes ++ more) = some (⟨c, s, n, e, t.clean⟩, (idB c s n ++ beB e 2 ++ t.bytes).length) := by
  have e1 : idB c s n ++ beB e 2 ++ t.bytes ++ more = idB c s n ++ (beB e 2 ++ (t.bytes ++ more)) := by simp [List.append_assoc]
  obtain ⟨i1, i2, i3⟩ := id_put hi (beB e 2 ++ (t.bytes ++ more))
  have d1 : (idB c s n ++ beB e 2 ++ t.bytes ++ more).drop 10 = beB e 2 ++ (t.bytes ++ more) := by
    rw [e1]; conv => lhs; arg 1; rw [← idB_length c s n]
    exact List.drop_left
  have d2 : (idB c s n ++ beB e 2 ++ t.bytes ++ more).drop 12 = t.bytes ++ more := by
    rw [show (12 : Nat) = 10 + 2 from rfl, ← List.drop_drop, d1, drop_beB]
  rw [← e1] at i1 i2 i3
  have hlen : ¬ (idB c s n ++ beB e 2 ++ t.bytes ++ more).length < 12 := by
    rw [e1]; simp only [List.length_append, idB_length, beB_length]; omega
  rw [rrd_yes hlen (by rw [d2]; exact vrd_put hok hk more), i1, i2, i3, d1, take_beB, be_small e 2 he]
  congr 2
  simp only [List.length_append, idB_length, beB_length]
end Go.Proofs.Ytkhgbbloeeaceaa
namespace Go.Proofs.Ytkhgbbloeeaceaa
open Go Go.RowKit
attribute [local go_sem ↓] run_store_float

theorem k_chk : chk [V.int 3] = 0 := by decide +kernel
theorem k_put : oput [] 1 2 0 ⟨#[103]⟩ ⟨#[109]⟩ [V.int 3] = ((obytes 1 2 0 ⟨#[103]⟩ ⟨#[109]⟩ [V.int 3]), 0) := by
  unfold oput
  rw [if_neg (by decide), if_pos k_chk]
  rfl
theorem k_ok : ∀ t ∈ [V.int 3], V.Ok t := by
  intro t ht
  simp only [List.mem_singleton] at ht
  subst ht
  exact .mk _ _ _ _ _ (by decide) (by decide) (fun x hx => by cases hx)
theorem k_read : oread (obytes 1 2 0 ⟨#[103]⟩ ⟨#[109]⟩ [V.int 3]) = (⟨1, 2, 0, ⟨#[103]⟩, ⟨#[109]⟩, [V.int 3]⟩, 26, 0) := by
  have h := ord_put (c := 1) (s := 2) (n := 0) (g := ⟨#[103]⟩) (m := ⟨#[109]⟩) (l := [V.int 3]) (by decide) (by decide) (by decide) (by decide) k_chk k_ok []
  rw [List.append_nil] at h
  rw [oread_yes h]
  rfl
theorem k_len : (obytes 1 2 0 ⟨#[103]⟩ ⟨#[109]⟩ [V.int 3]).length = 26 := by decide +kernel
theorem k_byt : Byt (obytes 1 2 0 ⟨#[103]⟩ ⟨#[109]⟩ [V.int 3]) := by
  have : (obytes 1 2 0 ⟨#[103]⟩ ⟨#[109]⟩ [V.int 3]).all (fun z => decide (0 ≤ z) && decide (z ≤ 255)) = true := by decide +kernel
  intro z hz
  have := List.all_eq_true.1 this z hz
  simpa using this
theorem k_rput : rput [] 1 2 0 30 V.nil = ((idB 1 2 0 ++ beB 30 2 ++ V.nil.bytes), 0) := by
  unfold rput
  rw [if_neg (by decide)]
  unfold vput
  rw [if_pos (by decide +kernel)]
  rfl
theorem k_rread : rread (idB 1 2 0 ++ beB 30 2 ++ V.nil.bytes) = (⟨1, 2, 0, 30, V.nil⟩, 13, 0) := by
  have h := rrd_put (c := 1) (s := 2) (n := 0) (e := 30) (t := V.nil) (by decide) (by decide) (.mk _ _ _ _ _ (by decide) (by decide) (fun x hx => by cases hx)) (by decide +kernel) []
  rw [List.append_nil] at h
  rw [rread_yes h]
  rfl
theorem k_rlen : (idB 1 2 0 ++ beB 30 2 ++ V.nil.bytes).length = 13 := by decide +kernel
theorem k_rbyt : Byt (idB 1 2 0 ++ beB 30 2 ++ V.nil.bytes) := by
  have : (idB 1 2 0 ++ beB 30 2 ++ V.nil.bytes).all (fun z => decide (0 ≤ z) && decide (z ≤ 255)) = true := by decide +kernel
  intro z hz
  have := List.all_eq_true.1 this z hz
  simpa using this
theorem k_same : eqO 1 2 0 ⟨#[103]⟩ ⟨#[109]⟩ [V.int 3] 1 2 0 ⟨#[103]⟩ ⟨#[109]⟩ [V.int 3] = true := by decide +kernel
theorem ReadO2_n {a : Option Addr} {c N : Nat} {zs : List Int} {w : World} {r : O × Int × Int} (hr : oread zs = r) (hN : zs.length = N) (hl : N ≤ 140737488355328 ∧ N ≤ c ∧ c ≤ 9223372036854775807) (hc : a = none → c = 0) (hz : BIn w a zs) :
    Calls Try.prog 11 #[.slice a N c] w (RetO w r) := by
  subst hr; subst hN; exact ReadO2_c a c zs w hl hc hz
theorem ReadP2_n {a : Option Addr} {c N : Nat} {zs : List Int} {w : World} {r : RP × Int × Int} (hr : rread zs = r) (hN : zs.length = N) (hl : N ≤ 140737488355328 ∧ N ≤ c ∧ c ≤ 9223372036854775807) (hc : a = none → c = 0) (hz : BIn w a zs) :
    Calls Try.prog 14 #[.slice a N c] w (RetP w r) := by
  subst hr; subst hN; exact ReadP2_c a c zs w hl hc hz
theorem VL3 {w : World} {b : Nat} (h : w.heap[b]? = some (.cells #[.int .i64 1, .int .i64 3, .float .f64 0, .string ⟨#[]⟩, .slice none 0 0] 43)) : VIn (fun q => q < w.heap.size) w (VL [V.int 3]) (.slice (some ⟨b, 0, none⟩) 1 1) := by
  obtain ⟨⟨c0, c1, c2, c3, c4⟩, _⟩ := cells_of_block5 h
  refine VIn.lsts (by decide) (fun e => by cases e) (by decide) (.inr ⟨b, 0, rfl, ?_⟩)
  unfold EIn
  refine ⟨⟨World.block_lt_of_cell? _ _ c0, .slice none 0 0, c0, c1, c2, c3, c4, VIn.int (by decide)⟩, ?_⟩
  unfold EIn
  trivial

set_option maxHeartbeats 1600000 in
theorem known6_c (w : World) : Calls Try.prog 8 #[] w fun e w' => e = .returned (.bool true) ∧ Below w.heap.size w w' := by
  go_enter Try.func8, Try.ntmps8
  go_wp2_with fail
  refine (int_c 3 _).mono ?_
  rintro e w1 ⟨rfl, hb1⟩
  have HB1 := Lib.hid hb1
  clear hb1
  go_wp2_with fail
  have HA2 := Lib.hid (((Below.refl w1.heap.size w1).alloc (Nat.le_refl _) (.cells #[.int .i64 1, .int .i64 3, .float .f64 0, .string ⟨#[]⟩, .slice none 0 0] 43)).alloc (by simp) (.cells #[.int .u32 1, .int .u32 2, .int .u16 0, .string ⟨#[103]⟩, .string ⟨#[109]⟩, .slice (some ⟨w1.heap.size, 0, none⟩) 1 1] 29))
  have HV2 := Lib.hid (VL3 (b := w1.heap.size) (block_alloc_old (.cells #[.int .u32 1, .int .u32 2, .int .u16 0, .string ⟨#[103]⟩, .string ⟨#[109]⟩, .slice (some ⟨w1.heap.size, 0, none⟩) 1 1] 29) (block_alloc_at (w := w1) (.cells #[.int .i64 1, .int .i64 3, .float .f64 0, .string ⟨#[]⟩, .slice none 0 0] 43) rfl)))
  have HO2 := Lib.hid (show ok6 ((w1.alloc (.cells #[.int .i64 1, .int .i64 3, .float .f64 0, .string ⟨#[]⟩, .slice none 0 0] 43)).alloc (.cells #[.int .u32 1, .int .u32 2, .int .u16 0, .string ⟨#[103]⟩, .string ⟨#[109]⟩, .slice (some ⟨w1.heap.size, 0, none⟩) 1 1] 29)) (w1.heap.size + 1) 1 2 0 ⟨#[103]⟩ ⟨#[109]⟩ (.slice (some ⟨w1.heap.size, 0, none⟩) 1 1) from block_alloc_at (w := w1.alloc (.cells #[.int .i64 1, .int .i64 3, .float .f64 0, .string ⟨#[]⟩, .slice none 0 0] 43)) (n := w1.heap.size + 1) _ (by simp))
  have HB2 := Lib.hid (HB1.out.trans (HA2.out.mono HB1.out.size))
  generalize (w1.alloc _).alloc _ = w2 at *
  generalize w1.heap.size + 1 = ob at *
  have hP := put2_op_c w2.heap.size none 0 [] 1 2 0 ⟨#[103]⟩ ⟨#[109]⟩ [V.int 3] _ w2 (by decide) (by decide) (fun j hj => by cases hj) (fun _ => rfl) (by simp) (Nat.le_refl _) (by simp) HV2.out
  rw [k_put] at hP
  refine hP.mono ?_
  rintro e w3 ⟨sl3, rfl, hbs3, hb3, _⟩
  obtain ⟨a3, c3, rfl, hlc3, hc3, hbin3⟩ := hbs3.binB k_byt (by rw [k_len]; decide)
  rw [k_len] at hlc3 ⊢
  have HZ3 := Lib.hid hbin3
  have HB3 := Lib.hid (HB2.out.trans (hb3.mono HB2.out.size))
  have HO3 := Lib.hid (show ok6 w3 ob 1 2 0 ⟨#[103]⟩ ⟨#[109]⟩ _ from block_below hb3 HO2.out)
  have HV3 := Lib.hid (HV2.out.below hb3)
  clear hP hbs3 hb3 hbin3 HA2 HB1 HB2
  go_wp2_with fail
  refine (ReadO2_n (N := 26) k_read k_len ⟨by decide, hlc3⟩ hc3 HZ3.out).mono ?_
  rintro e w4 ⟨sa4, sc4, rfl, hv4, hb4⟩
  have HB4 := Lib.hid (HB3.out.trans (hb4.mono HB3.out.size))
  have HA5 := Lib.hid (fun o => ((Below.refl w4.heap.size w4).alloc (Nat.le_refl _) o : Below w4.heap.size w4 (w4.alloc o)))
  have HO4 := Lib.hid (show ok6 w4 ob 1 2 0 ⟨#[103]⟩ ⟨#[109]⟩ _ from block_below hb4 HO3.out)
  have HV4 := Lib.hid (HV3.out.below hb4)
  have HW4 := Lib.hid hv4
  clear hb4 hv4
  dsimp only [List.length_cons, List.length_nil, Nat.zero_add] at HW4 ⊢
  have HO5 := Lib.hid (show ok6 (w4.alloc (.cells #[.int .u32 1, .int .u32 2, .int .u16 0, .string ⟨#[103]⟩, .string ⟨#[109]⟩, .slice sa4 1 sc4] 29)) ob 1 2 0 ⟨#[103]⟩ ⟨#[109]⟩ _ from block_below (HA5.out _) HO4.out)
  have HP5 := Lib.hid (show ok6 (w4.alloc (.cells #[.int .u32 1, .int .u32 2, .int .u16 0, .string ⟨#[103]⟩, .string ⟨#[109]⟩, .slice sa4 1 sc4] 29)) w4.heap.size 1 2 0 ⟨#[103]⟩ ⟨#[109]⟩ (.slice sa4 1 sc4) from block_alloc_at _ rfl)
  have HV5 := Lib.hid (HV4.out.below (HA5.out (.cells #[.int .u32 1, .int .u32 2, .int .u16 0, .string ⟨#[103]⟩, .string ⟨#[109]⟩, .slice sa4 1 sc4] 29)))
  have HW5 := Lib.hid (VIn.below HW4.out (HA5.out (.cells #[.int .u32 1, .int .u32 2, .int .u16 0, .string ⟨#[103]⟩, .string ⟨#[109]⟩, .slice sa4 1 sc4] 29)))
  have HB5 := Lib.hid (HB4.out.trans ((HA5.out (.cells #[.int .u32 1, .int .u32 2, .int .u16 0, .string ⟨#[103]⟩, .string ⟨#[109]⟩, .slice sa4 1 sc4] 29)).mono HB4.out.size))
  obtain ⟨⟨⟨o0, o1, o2⟩, o3, o4, o5⟩, _, _⟩ := HO5.out.cells
  go_wp2_with fail
  generalize w4.alloc _ = w5 at *
  generalize w4.heap.size = pb at *
  have hQ := putReply2_c w5.heap.size none 0 [] 1 2 0 30 V.nil (.slice none 0 0) w5 (by decide) (fun j hj => by cases hj) (fun _ => rfl) (by simp) (Nat.le_refl _) (by simp) VIn.nil
  rw [k_rput] at hQ
  refine hQ.mono ?_
  rintro e w6 ⟨sl6, rfl, hbs6, hb6, _⟩
  obtain ⟨a6, c6, rfl, hlc6, hc6, hbin6⟩ := hbs6.binB k_rbyt (by rw [k_rlen]; decide)
  rw [k_rlen] at hlc6 ⊢
  have HZ6 := Lib.hid hbin6
  have HB6 := Lib.hid (HB5.out.trans (hb6.mono HB5.out.size))
  have HO6 := Lib.hid (show ok6 w6 ob 1 2 0 ⟨#[103]⟩ ⟨#[109]⟩ _ from block_below hb6 HO5.out)
  have HP6 := Lib.hid (show ok6 w6 pb 1 2 0 ⟨#[103]⟩ ⟨#[109]⟩ _ from block_below hb6 HP5.out)
  have HV6 := Lib.hid (HV5.out.below hb6)
  have HW6 := Lib.hid (HW5.out.below hb6)
  clear hQ hbs6 hb6 hbin6 o0 o1 o2 o3 o4 o5
  go_wp2_with fail
  refine (ReadP2_n (N := 13) k_rread k_rlen ⟨by decide, hlc6⟩ hc6 HZ6.out).mono ?_
  rintro e w7 ⟨sa6, sc6, rfl, hv7, hb7⟩
  dsimp only [V.nil, V.k_mk, V.i_mk, V.f_mk, V.s_mk, V.l_mk, List.length_nil] at hv7 ⊢
  have HA8 := Lib.hid ((Below.refl w7.heap.size w7).alloc (Nat.le_refl _) (.cells #[.int .u32 1, .int .u32 2, .int .u16 0, .int .i64 30, .int .i64 0, .int .i64 0, .float .f64 0, .string ⟨#[]⟩, .slice sa6 0 sc6] 45))
  have HB8 := Lib.hid (HB6.out.trans ((hb7.trans (HA8.out.mono hb7.size)).mono HB6.out.size))
  have HO8 := Lib.hid (show ok6 (w7.alloc (.cells #[.int .u32 1, .int .u32 2, .int .u16 0, .int .i64 30, .int .i64 0, .int .i64 0, .float .f64 0, .string ⟨#[]⟩, .slice sa6 0 sc6] 45)) ob 1 2 0 ⟨#[103]⟩ ⟨#[109]⟩ _ from block_below HA8.out (block_below hb7 HO6.out))
  have HP8 := Lib.hid (show ok6 (w7.alloc (.cells #[.int .u32 1, .int .u32 2, .int .u16 0, .int .i64 30, .int .i64 0, .int .i64 0, .float .f64 0, .string ⟨#[]⟩, .slice sa6 0 sc6] 45)) pb 1 2 0 ⟨#[103]⟩ ⟨#[109]⟩ _ from block_below HA8.out (block_below hb7 HP6.out))
  have HV8 := Lib.hid ((HV6.out.below hb7).below HA8.out)
  have HW8 := Lib.hid ((HW6.out.below hb7).below HA8.out)
  obtain ⟨⟨⟨o0, o1, o2⟩, o3, o4, o5⟩, _, _⟩ := HO8.out.cells
  obtain ⟨⟨⟨p0, p1, p2⟩, p3, p4, p5⟩, _, _⟩ := HP8.out.cells
  clear hv7 hb7
  go_wp2_with fail
  refine (op_c 1 2 0 ⟨#[103]⟩ ⟨#[109]⟩ [V.int 3] _ 1 2 0 ⟨#[103]⟩ ⟨#[109]⟩ [V.int 3] _ _ _ _ HV8.out HW8.out).mono ?_
  rintro e w9 ⟨rfl, hb9⟩
  rw [sameO_self]
  obtain ⟨⟨⟨o0, o1, o2⟩, o3, o4, o5⟩, _, _⟩ := (show ok6 w9 ob 1 2 0 ⟨#[103]⟩ ⟨#[109]⟩ _ from block_below hb9 HO8.out).cells
  obtain ⟨⟨⟨p0, p1, p2⟩, p3, p4, p5⟩, _, _⟩ := (show ok6 w9 pb 1 2 0 ⟨#[103]⟩ ⟨#[109]⟩ _ from block_below hb9 HP8.out).cells
  have hr9 := (ok9.cells (show ok9 w9 w7.heap.size 1 2 0 30 0 0 0 ⟨#[]⟩ (.slice sa6 0 sc6) from block_below hb9 (block_alloc_at (w := w7) (.cells #[.int .u32 1, .int .u32 2, .int .u16 0, .int .i64 30, .int .i64 0, .int .i64 0, .float .f64 0, .string ⟨#[]⟩, .slice sa6 0 sc6] 45) rfl))).1.2.1
  have HV9 := Lib.hid (HV8.out.below hb9)
  have HW9 := Lib.hid (HW8.out.below hb9)
  have HB9 := Lib.hid (HB8.out.trans (hb9.mono HB8.out.size))
  clear hb9
  go_wp2_with fail
  refine (callSame_c 1 2 0 ⟨#[103]⟩ ⟨#[109]⟩ [V.int 3] _ 1 2 0 ⟨#[103]⟩ ⟨#[109]⟩ [V.int 3] _ _ _ _ HV9.out HW9.out).mono ?_
  rintro e w10 ⟨rfl, hb10⟩
  rw [k_same]
  have HB10 := Lib.hid (HB9.out.trans (hb10.mono HB9.out.size))
  clear hb10
  go_wp2_with fail
  go_ret
  exact ⟨rfl, HB10.out⟩
end Go.Proofs.Ytkhgbbloeeaceaa
