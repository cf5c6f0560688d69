/- Values put, or refused: by the reference, by the program. -/
import Derived.Test.YtkhgbbloeeaceaaPy
import Derived.Test.YtkhgbbloeeaceaaCp
namespace Go.Proofs.Ytkhgbbloeeaceaa
open Go Go.RowKit
set_option maxRecDepth 16000
attribute [local go_sem ↓] run_store_float

/-! Sizes do not wrap, where a value may be. -/
theorem V.sizes_le {l : List V} {B : Int} (h : ∀ x ∈ l, 0 ≤ x.size ∧ x.size ≤ B) : 0 ≤ V.sizes l ∧ V.sizes l ≤ l.length * B := by
  induction l with
  | nil => simp
  | cons t ts ih =>
    have h1 := h t (by simp)
    have h2 := ih (fun x hx => h x (by simp [hx]))
    rw [V.sizes_cons, List.length_cons]
    have : ((ts.length + 1 : Nat) : Int) * B = ts.length * B + B := by rw [Int.natCast_add, Int.add_mul]; simp
    omega
theorem pow66 : ∀ d : Nat, (1 : Int) ≤ 66 ^ d
  | 0 => by decide
  | d + 1 => by have := pow66 d; rw [Int.pow_succ]; omega
theorem V.size_bound (t : V) : ∀ d : Nat, t.great d = false → 0 ≤ t.size ∧ t.size ≤ 259 * 66 ^ d := by
  induction t using V.induct with
  | h k i f s l ih =>
  intro d hg
  rw [V.great_mk] at hg
  rw [V.size_mk]
  have hp : (1 : Int) ≤ 66 ^ d := pow66 d
  by_cases k12 : k = 1 ∨ k = 2
  · rw [if_pos k12]; omega
  rw [if_neg k12]
  by_cases k3 : k = 3
  · rw [if_pos k3] at hg ⊢
    have : ¬ 256 < s.size := by simpa using hg
    omega
  rw [if_neg k3] at hg ⊢
  by_cases k4 : k = 4
  · rw [if_pos k4] at hg ⊢
    have hne : ¬ (64 < l.length ∨ d = 0) := fun h => by rw [if_pos h] at hg; cases hg
    rw [if_neg hne, V.greats_any] at hg
    obtain ⟨e, rfl⟩ : ∃ e, d = e + 1 := ⟨d - 1, by omega⟩
    simp only [Nat.add_sub_cancel] at hg
    have h2 := V.sizes_le (l := l) (B := 259 * 66 ^ e) (fun x hx => ih x hx e (by simpa using List.any_eq_false.1 hg x hx))
    have hp2 : (1 : Int) ≤ 66 ^ e := pow66 e
    have h3 : (l.length : Int) * (259 * 66 ^ e) ≤ 64 * (259 * 66 ^ e) := Int.mul_le_mul_of_nonneg_right (by omega) (by omega)
    rw [Int.pow_succ]
    omega
  · rw [if_neg k4]; omega
/-- What may be. -/
theorem V.check_zero {t : V} (h : t.check = 0) : t.odd = false ∧ t.great 8 = false ∧ 0 ≤ t.size ∧ t.size ≤ 4096 := by
  unfold V.check at h
  have h1 : t.odd = false := by cases ho : t.odd with | false => rfl | true => rw [ho] at h; simp at h
  have h2 : t.great 8 = false := by cases ho : t.great 8 with | false => rfl | true => rw [h1, ho] at h; simp at h
  rw [h1, h2] at h
  have hb := V.size_bound t 8 h2
  have hw : wrap64 t.size = t.size := by
    have e8 : (259 : Int) * 66 ^ 8 = 93250517023851264 := by decide
    rw [e8] at hb
    unfold wrap64; omega
  rw [hw] at h
  refine ⟨h1, h2, hb.1, ?_⟩
  by_cases h3 : 4096 < t.size
  · simp [h3] at h
  · omega
theorem V.bytes_length (t : V) : t.odd = false → (t.bytes.length : Int) = t.size := by
  induction t using V.induct with
  | h k i f s l ih =>
  intro ho
  rw [V.odd_mk] at ho
  rw [V.bytes_mk, V.size_mk]
  have hk : ¬(k < 0 ∨ 4 < k) := fun h => by rw [if_pos h] at ho; cases ho
  rw [if_neg hk] at ho
  rcases (show k = 0 ∨ k = 1 ∨ k = 2 ∨ k = 3 ∨ k = 4 by omega) with rfl | rfl | rfl | rfl | rfl
  · simp
  · simp [beB_length]
  · simp [beB_length]
  · simp [beB_length, strI_length]; omega
  · simp only [if_true, V.odds_any] at ho
    have : ∀ l' : List V, (∀ x ∈ l', x ∈ l) → ((V.bytess l').length : Int) = V.sizes l' := by
      intro l'
      induction l' with
      | nil => intro _; simp
      | cons x xs ihl =>
        intro hx
        have h1 := ih x (hx x (by simp)) (by simpa using List.any_eq_false.1 ho x (hx x (by simp)))
        have h2 := ihl (fun y hy => hx y (by simp [hy]))
        rw [V.bytess_cons, V.sizes_cons, List.length_append, Int.natCast_add, h1, h2]
    have := this l (fun _ h => h)
    simp; omega
/-- What Put tells: bytes, an error's number. -/
def vput (zs : List Int) (t : V) : List Int × Int := if t.check = 0 then (zs ++ t.bytes, 0) else ([], t.check)

theorem Put1_c (t : V) (base : Nat) (bl : Value) (zs : List Int) (w : World) (sl : Value) (hb : Bs w base bl zs) (hbase : base ≤ w.heap.size) (hl : zs.length ≤ 140737480000000) (hv : VIn (fun b => b < base) w t sl) :
    Calls Try.prog 31 #[bl, .agg #[.int .i64 t.k, .int .i64 t.i, .float .f64 t.f, .string t.s, sl]] w (RetBE w base bl (vput zs t)) := by
  obtain ⟨va, vc, rfl⟩ := hv.form
  obtain ⟨k, i, f, s, l⟩ := t
  simp only [V.k_mk, V.i_mk, V.f_mk, V.s_mk, V.l_mk] at hv ⊢
  generalize hr : vput zs (V.mk k i f s l) = r
  have HR := Lib.hid hr.symm
  have HV := Lib.hid hv
  have HBB := Lib.hid (fun o => ((Below.refl w.heap.size w).alloc (Nat.le_refl _) o : Below w.heap.size w (w.alloc o)))
  have HBS := Lib.hid hb
  have HAT := Lib.hid (fun w1 (h : Below (w.alloc (.cells #[.int .i64 k, .int .i64 i, .float .f64 f, .string s, .slice va l.length vc] 43)).heap.size (w.alloc (.cells #[.int .i64 k, .int .i64 i, .float .f64 f, .string s, .slice va l.length vc] 43)) w1) => one.keep h (one.start0 (w0 := w) (t := 43) (k := k) (i := i) (f := f) (s := s) (sl := .slice va l.length vc)))
  clear hr hv hb
  by_cases hc : (V.mk k i f s l).check = 0
  · have HF := Lib.hid (show r = (zs ++ (V.mk k i f s l).bytes, 0) by rw [HR.out]; unfold vput; rw [if_pos hc])
    have HO := Lib.hid (V.check_zero hc).1
    have HLN := Lib.hid (show zs.length + (V.mk k i f s l).bytes.length ≤ 140737488000000 by have := V.check_zero hc; have := V.bytes_length _ HO.out; omega)
    have HC := Lib.hid hc
    clear hc
    go_enter Try.func31, Try.ntmps31
    go_wp2_with fail
    refine (check1_c (.mk k i f s l) _ _ _ (HV.out.below (HBB.out _))).mono ?_
    rintro e w1 ⟨rfl, hb1⟩
    rw [HC.out]
    have h1 := HAT.out w1 hb1
    obtain ⟨⟨c0, c1, c2, c3, c4⟩, _, _⟩ := id h1
    have H1 := Lib.hid h1
    clear hb1 h1
    go_wp2_with fail
    refine (put1_c (.mk k i f s l) base bl zs _ _ (HBS.out.below H1.out.2.1) (Nat.le_trans hbase H1.out.2.1.size) HLN.out HO.out (HV.out.below H1.out.2.1)).mono ?_
    rintro e w2 ⟨sl2, rfl, hap2⟩
    have HA2 := Lib.hid hap2
    clear hap2 c0 c1 c2 c3 c4
    go_wp2_with fail
    refine bodyPost_ret (v := .tuple #[sl2, .int .i64 0]) (by simp [results, Try.results31, go_sem]) rfl ⟨_, by rw [HF.out], ?_⟩
    rw [HF.out]
    exact ((Ap.refl HBS.out).below H1.out.2.1).trans HA2.out
  · have HF := Lib.hid (show r = ([], (V.mk k i f s l).check) by rw [HR.out]; unfold vput; rw [if_neg hc])
    have hcb : ((V.mk k i f s l).check != 0) = true := by simpa using hc
    generalize hch : (V.mk k i f s l).check = ch at hcb HF
    have HCH := Lib.hid hch
    clear hc hch
    go_enter Try.func31, Try.ntmps31
    go_wp2_with fail
    refine (check1_c (.mk k i f s l) _ _ _ (HV.out.below (HBB.out _))).mono ?_
    rintro e w1 ⟨rfl, hb1⟩
    rw [HCH.out]
    have H1 := Lib.hid (HAT.out w1 hb1)
    clear hb1
    go_wp2_with fail
    refine bodyPost_ret (v := .tuple #[.slice none 0 0, .int .i64 ch]) (by simp [results, Try.results31, go_sem]) rfl ⟨_, by rw [HF.out], ?_⟩
    rw [HF.out]
    exact Ap.of_fresh (World.ownsRow_nil _ _ _ _) H1.out.2.1 (fun k h => by cases h)

theorem Put2_c (t : V) (base : Nat) (a : Option Addr) (c : Nat) (zs : List Int) (w : World) (sl : Value) (hz : BIn w a zs) (hc : a = none → c = 0) (hlc : zs.length ≤ c) (hbase : base ≤ w.heap.size) (hl : zs.length ≤ 140737480000000) (hv : VIn (fun b => b < base) w t sl) :
    Calls Try.prog 48 #[.slice a zs.length c, .agg #[.int .i64 t.k, .int .i64 t.i, .float .f64 t.f, .string t.s, sl]] w (RetNE w base (vput zs t)) := by
  obtain ⟨va, vc, rfl⟩ := hv.form
  obtain ⟨k, i, f, s, l⟩ := t
  simp only [V.k_mk, V.i_mk, V.f_mk, V.s_mk, V.l_mk] at hv ⊢
  generalize hr : vput zs (V.mk k i f s l) = r
  have HR := Lib.hid hr.symm
  have HV := Lib.hid hv
  have HZ := Lib.hid hz
  have HBB := Lib.hid (fun o => ((Below.refl w.heap.size w).alloc (Nat.le_refl _) o : Below w.heap.size w (w.alloc o)))
  have HAT := Lib.hid (fun w1 (h : Below (w.alloc (.cells #[.int .i64 k, .int .i64 i, .float .f64 f, .string s, .slice va l.length vc] 43)).heap.size (w.alloc (.cells #[.int .i64 k, .int .i64 i, .float .f64 f, .string s, .slice va l.length vc] 43)) w1) => one.keep h (one.start0 (w0 := w) (t := 43) (k := k) (i := i) (f := f) (s := s) (sl := .slice va l.length vc)))
  clear hr hv hz
  by_cases hch : (V.mk k i f s l).check = 0
  · have HF := Lib.hid (show r = (zs ++ (V.mk k i f s l).bytes, 0) by rw [HR.out]; unfold vput; rw [if_pos hch])
    have HO := Lib.hid (V.check_zero hch).1
    have HLN := Lib.hid (show zs.length + (V.mk k i f s l).bytes.length ≤ 140737488000000 by have := V.check_zero hch; have := V.bytes_length _ HO.out; omega)
    have HCH := Lib.hid hch
    clear hch
    have hr := HF.out
    subst hr
    go_enter Try.func48, Try.ntmps48
    go_wp2_with fail
    refine (check2_c (.mk k i f s l) _ _ _ (HV.out.below (HBB.out _))).mono ?_
    rintro e w1 ⟨rfl, hb1⟩
    rw [HCH.out]
    have h1 := HAT.out w1 hb1
    have HC := Lib.hid h1
    clear hb1 h1
    go_wp2_with fail
    refine wp_region_held_drew (S := fun w' => one w w' k i f s (.slice va l.length vc)) (by kernel_rfl) (one.keep (Below.refl _ _).drew (HC.out)) (fun hT => ?_)
    refine H_take 0 hT rfl (by kernel_rfl) (by kernel_rfl) (by kernel_rfl) (fun _ _ _ h => h) (by rfl) (by (intro w' hw'; (try dsimp only at hw'); go_simp; try with_reducible rfl)) ?_
    try simp only [Act.put, List.setIfInBounds_toArray, List.set_cons_zero, List.set_cons_succ]
    refine H_take 2 hT rfl (by kernel_rfl) (by kernel_rfl) (by kernel_rfl) (fun _ _ _ h => h) (by rfl) (by (intro w' hw'; (try dsimp only at hw'); go_simp; try with_reducible rfl)) ?_
    try simp only [Act.put, List.setIfInBounds_toArray, List.set_cons_zero, List.set_cons_succ]
    refine H_one 1 rfl (by kernel_rfl) (fun K hK => ?_)
    rw [if_pos (by rfl)]
    go_simp
    refine (clone_c base a c zs _ (BIn.below HZ.out hT.2.1) hc hlc (Nat.le_trans hbase hT.2.1.size) (by omega)).mono ?_
    rintro e w2 ⟨sl2, rfl, hbs2, hbel2, hat2⟩
    have HB2 := Lib.hid (And.intro (show Bs w2 base sl2 zs from .inl hbs2) (And.intro hbel2 hat2))
    have hT2' := one.keep hbel2 hT
    refine hK _ _ hT2' (fun hT2 => ?_)
    clear hK hbs2 hbel2 hat2 hT2'
    try simp only [Act.put, List.setIfInBounds_toArray, List.set_cons_zero, List.set_cons_succ]
    refine H_one 3 rfl (by kernel_rfl) (fun K hK => ?_)
    rw [if_pos (by rfl)]
    go_simp
    refine (put2_c (.mk k i f s l) base sl2 zs _ _ HB2.out.1 HZ.out.byt (Nat.le_trans hbase hT2.2.1.size) HLN.out HO.out (HV.out.below hT2.2.1)).mono ?_
    rintro e w3 ⟨sl3, rfl, hap3⟩
    have HF3 := Lib.hid (hap3.fresh (w := w) hT2.2.1 (fun k hk => Nat.le_trans hT.2.1.size (HB2.out.2.2 k hk)))
    refine hK _ _ ⟨(hT2.1.grown hap3.grew (fun e => by have := HB2.out.2.2 _ (obk_some.1 e.symm).1; have := hT.2.2; omega)), HF3.out.2.1, Nat.lt_of_lt_of_le hT2.2.2 hap3.grew.size⟩ (fun hT3 => ?_)
    clear hK hap3
    try simp only [Act.put, List.setIfInBounds_toArray, List.set_cons_zero, List.set_cons_succ]
    refine H_take 4 hT3 rfl (by kernel_rfl) (by kernel_rfl) (by kernel_rfl) (fun _ _ _ h => h) (by rfl) (by (intro w' hw'; (try dsimp only at hw'); go_simp; try with_reducible rfl)) ?_
    try simp only [Act.put, List.setIfInBounds_toArray, List.set_cons_zero, List.set_cons_succ]
    refine H_take 5 hT3 rfl (by kernel_rfl) (by kernel_rfl) (by kernel_rfl) (fun _ _ _ h => h) (by rfl) (by (intro w' hw'; (try dsimp only at hw'); go_simp; try with_reducible rfl)) ?_
    try simp only [Act.put, List.setIfInBounds_toArray, List.set_cons_zero, List.set_cons_succ]
    refine wpAnyH_done (by kernel_rfl) ?_ _
    clear hT hT2 hT3
    go_wp2_with fail
    exact bodyPost_ret (v := .tuple #[sl3, .int .i64 0]) (by simp [results, Try.results48, go_sem]) rfl ⟨_, rfl, HF3.out.1, HF3.out.2.1, HF3.out.2.2⟩
  · have HF := Lib.hid (show r = ([], (V.mk k i f s l).check) by rw [HR.out]; unfold vput; rw [if_neg hch])
    have hcb : ((V.mk k i f s l).check != 0) = true := by simpa using hch
    generalize hch2 : (V.mk k i f s l).check = ch at hcb HF
    have HCH := Lib.hid hch2
    clear hch hch2
    go_enter Try.func48, Try.ntmps48
    go_wp2_with fail
    refine (check2_c (.mk k i f s l) _ _ _ (HV.out.below (HBB.out _))).mono ?_
    rintro e w1 ⟨rfl, hb1⟩
    rw [HCH.out]
    have H1 := Lib.hid (HAT.out w1 hb1)
    clear hb1
    go_wp2_with fail
    refine bodyPost_ret (v := .tuple #[.slice none 0 0, .int .i64 ch]) (by simp [results, Try.results48, go_sem]) rfl ⟨_, by rw [HF.out], ?_⟩
    rw [HF.out]
    exact ⟨Bs.nil, H1.out.2.1, (fun k h => by cases h)⟩
end Go.Proofs.Ytkhgbbloeeaceaa
