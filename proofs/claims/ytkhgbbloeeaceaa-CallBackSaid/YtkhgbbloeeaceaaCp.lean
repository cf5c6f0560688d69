/- May a value be? The program's telling. -/
import Derived.Test.YtkhgbbloeeaceaaCk
import Derived.Test.YtkhgbbloeeaceaaR
namespace Go.Proofs.Ytkhgbbloeeaceaa
open Go Go.RowKit
set_option maxRecDepth 16000
attribute [local go_sem ↓] run_store_float

/-- Where the first one is of which p holds; -1: nowhere. -/
def idxI (p : V → Bool) (l : List V) : Int := ((l.findIdx? p).map (fun n => (n : Int))).getD (-1)
theorem idxI_at (p : V → Bool) (l : List V) (m : Nat) (hm : m < l.length) (h0 : (l.take m).any p = false) (h : p l[m] = true) : idxI p l = m := by
  unfold idxI
  rw [List.findIdx?_eq_some_iff_getElem.2 ⟨hm, h, fun j hj => ?_⟩]
  · rfl
  · have := List.any_eq_false.1 h0 l[j] (by rw [List.mem_take_iff_getElem]; exact ⟨j, by omega, rfl⟩)
    simpa using this
theorem idxI_no (p : V → Bool) (l : List V) (h : l.any p = false) : idxI p l = -1 := by
  unfold idxI
  rw [List.findIdx?_eq_none_iff.2 (fun x hx => by simpa using List.any_eq_false.1 h x hx)]
  rfl
theorem idxI_any (p : V → Bool) (l : List V) : decide (0 ≤ idxI p l) = l.any p := by
  unfold idxI
  cases h : l.findIdx? p with
  | none =>
    have := List.findIdx?_eq_none_iff.1 h
    have : l.any p = false := List.any_eq_false.2 (fun x hx => by simpa using this x hx)
    rw [this]; rfl
  | some n =>
    obtain ⟨hn, hp, _⟩ := List.findIdx?_eq_some_iff_getElem.1 h
    rw [any_of_get p l n hn hp]
    simp

/-- A value that was laid at the begin of a call from w0. -/
abbrev one (w0 w : World) (k i : Int) (f : Nat) (s : ByteArray) (sl : Value) : Prop := at5 w w0.heap.size k i f s sl ∧ Below w0.heap.size w0 w ∧ w0.heap.size < w.heap.size
theorem one.keep {w0 w w1 : World} (hb : Below w.heap.size w w1) {k i f s sl} (h : one w0 w k i f s sl) : one w0 w1 k i f s sl :=
  ⟨h.1.keep hb, h.2.1.trans (hb.mono (by have := h.2.2; omega)), Nat.lt_of_lt_of_le h.2.2 hb.size⟩
theorem one.start0 {w0 : World} {k i f s sl t} : one w0 (w0.alloc (.cells #[.int .i64 k, .int .i64 i, .float .f64 f, .string s, sl] t)) k i f s sl :=
  ⟨at5.new, (Below.refl _ _).alloc (Nat.le_refl _) _, by simp⟩
theorem one.start {w0 : World} {k i f s sl t} : one w0 (w0.alloc (.cells #[.int .i64 k, .int .i64 i, .float .f64 f, .string s, sl] t)).drew k i f s sl :=
  one.start0.keep (Below.refl _ _).drew

theorem size2_c (t : V) : ∀ (w : World) (sl : Value) (D : Nat → Prop), VIn D w t sl →
    Calls Try.prog 91 #[.agg #[.int .i64 t.k, .int .i64 t.i, .float .f64 t.f, .string t.s, sl]] w fun e w' => e = .returned (.int .i64 (wrap64 t.size)) ∧ Below w.heap.size w w' := by
  induction t using V.induct with
  | h k i f s l ih =>
  intro w sl D hv
  obtain ⟨wk, wi, wf, ws, wl, hsl⟩ := hv.parts
  simp only [V.k_mk, V.i_mk, V.f_mk, V.s_mk, V.size_mk]
  have hb : ∀ o, Below w.heap.size w (w.alloc o) := fun o => (Below.refl _ _).alloc (Nat.le_refl _) _
  by_cases k4 : k = 4
  · subst k4
    simp only [show ¬((4 : Int) = 1 ∨ (4 : Int) = 2) by omega, show ¬((4 : Int) = 3) by omega, if_false, if_true]
    have IH := Lib.hid ih
    have WK := Lib.hid wk
    have WI := Lib.hid wi
    clear ih hv wk wi wf ws
    obtain ⟨a, c, rfl, hlc, hcm, _, he⟩ := hsl
    go_enter Try.func91, Try.ntmps91
    go_wp2_with fail
    go_loopw [3, 28] (fun n j wr => ∃ m : Nat, m ≤ l.length ∧ j = .int .i64 m ∧ n = .int .i64 (wrap64 (2 + V.sizes (l.take m))) ∧ Below w.heap.size w wr ∧ w.heap.size < wr.heap.size) (fun _ i _ => l.length - (intOf i).toNat)
    case atStart => exact ⟨0, by omega, rfl, by simp [wrap64], hb _, by simp⟩
    case round =>
      obtain ⟨m, hm, rfl, rfl, hb, hz⟩ := hrel
      by_cases hlt : m < l.length
      · obtain ⟨b, o, rfl, he1⟩ := he.resolve_left (fun e => by simp [e] at hlt)
        have HE := Lib.hid (he1.keep (D' := D) (w' := wr) (fun b _ h => hb.block b h) (fun _ h _ => h))
        obtain ⟨hD, sa, sc, c0, c1, c2, c3, c4, hv⟩ := HE.out.get hlt
        have HBA := Lib.hid (fun o => ((Below.refl wr.heap.size wr).alloc (Nat.le_refl _) o : Below wr.heap.size wr (wr.alloc o)))
        have HV := Lib.hid hv
        have HB := Lib.hid hb
        have HZ := Lib.hid (show w.heap.size ≤ wr.heap.size by omega)
        clear hv hb
        go_wp2_with fail
        refine (IH.out _ (List.getElem_mem _) _ _ _ (HV.out.below (HBA.out _))).mono ?_
        rintro e w1 ⟨rfl, hb1⟩
        have hz1 : w.heap.size < w1.heap.size := Nat.lt_of_lt_of_le hz (Nat.le_trans (by simp) hb1.size)
        have HB1 := Lib.hid (HB.out.trans (((HBA.out _).trans (hb1.mono (by simp))).mono HZ.out))
        clear hb1
        have HS := Lib.hid (V.sizes_take l m hlt)
        go_wp2_with fail
        go_roundw
        case rel => exact ⟨m + 1, by omega, by go_num, by rw [HS.out]; simp [wrap64]; omega, HB1.out, hz1⟩
        case measure => simp [intOf]; omega
      · have hm' : m = l.length := by omega
        subst hm'
        go_wp2_with fail
        go_ret
        exact ⟨by simp, hb⟩
  · rw [if_neg (show ¬ k = 4 from k4)]
    have WK := Lib.hid wk
    have WI := Lib.hid wi
    clear ih hv wk wi hsl
    by_cases k12 : k = 1 ∨ k = 2
    · rw [if_pos k12]
      rcases k12 with rfl | rfl
      all_goals
        go_enter Try.func91, Try.ntmps91
        go_wp2_with fail
        go_ret
        exact ⟨ret_int (by simp [wrap64]), hb _⟩
    · rw [if_neg k12]
      have k1 : ¬ k = 1 := fun e => k12 (.inl e)
      have k2 : ¬ k = 2 := fun e => k12 (.inr e)
      clear k12
      by_cases k3 : k = 3
      · subst k3
        go_enter Try.func91, Try.ntmps91
        go_wp2_with fail
        go_ret
        exact ⟨ret_int (by simp [wrap64]; omega), hb _⟩
      · rw [if_neg k3]
        go_enter Try.func91, Try.ntmps91
        go_wp2_with fail
        go_ret
        exact ⟨ret_int (by simp [wrap64]), hb _⟩

def OddC (x : V) : Prop := ∀ (w : World) (sl : Value) (D : Nat → Prop), VIn D w x sl →
  Calls Try.prog 89 #[.agg #[.int .i64 x.k, .int .i64 x.i, .float .f64 x.f, .string x.s, sl]] w fun e w' => e = .returned (.bool x.odd) ∧ Below w.heap.size w w'
/-- The closure of great, that captured where the depth lies. -/
def GreatC (pb : Nat) (d : Nat) (x : V) : Prop := ∀ (w : World) (sl : Value) (D : Nat → Prop), w.cell? ⟨pb, 0, none⟩ = some (.int .i64 ((d : Int) + 1)) → VIn D w x sl →
  Calls Try.prog 101 #[.agg #[.int .i64 x.k, .int .i64 x.i, .float .f64 x.f, .string x.s, sl], .pointer (some ⟨pb, 0, none⟩)] w fun e w' => e = .returned (.bool (x.great d)) ∧ Below w.heap.size w w'

theorem index_odd (l : List V) (ih : ∀ x ∈ l, OddC x) (w : World) (a : Option Addr) (c : Nat) (D : Nat → Prop) (hl : l.length * 64 ≤ 140737488351232) (hlc : l.length ≤ c) (hcm : c ≤ 9223372036854775807)
    (ha : l = [] ∨ ∃ b o, a = some ⟨b, o, none⟩ ∧ EIn D w b o l) :
    Calls Try.prog 104 #[.slice a l.length c, .func (.func 89) #[] #[]] w
      fun e w' => e = .returned (.int .i64 (idxI V.odd l)) ∧ Below w.heap.size w w' := by
  have IH := Lib.hid ih
  have HA := Lib.hid ha
  clear ih ha
  go_enter Try.func104, Try.ntmps104
  go_wp2_with fail
  go_loopw [8] (fun j wr => ∃ n : Nat, n ≤ l.length ∧ j = .int .i64 n ∧ (l.take n).any V.odd = false ∧ Below w.heap.size w wr) (fun i _ => l.length - (intOf i).toNat)
  case atStart => exact ⟨0, by omega, rfl, rfl, Below.refl _ _⟩
  case round =>
    obtain ⟨n, hn, rfl, hk, hbl⟩ := hrel
    have HK := Lib.hid hk
    have HB := Lib.hid hbl
    clear hk
    by_cases hlt : n < l.length
    · obtain ⟨b1, o1, rfl, he1⟩ := HA.out.resolve_left (fun e => by simp [e] at hlt)
      have HE1 := Lib.hid (he1.keep (D' := D) (w' := wr) (fun b _ h => hbl.block b h) (fun _ h _ => h))
      obtain ⟨hD, sa, sc, c0, c1, c2, c3, c4, hv⟩ := HE1.out.get hlt
      have HV := Lib.hid hv
      clear hv hbl he1
      cases hx : V.odd l[n]
      · have HX := Lib.hid hx
        clear hx
        have HT := Lib.hid (any_take_succ V.odd l n hlt)
        go_wp2_with fail
        refine (IH.out _ (List.getElem_mem _) _ _ D HV.out).mono ?_
        rintro e w1 ⟨rfl, hb3⟩
        rw [HX.out]
        have HBw := Lib.hid (HB.out.trans (hb3.mono HB.out.size))
        clear hb3
        go_wp2_with fail
        go_roundw
        case rel => exact ⟨n + 1, by omega, by go_num, by rw [HT.out, HK.out, HX.out]; rfl, HBw.out⟩
        case measure => simp [intOf]; omega
      · have HX := Lib.hid hx
        clear hx
        have HX0 := Lib.hid (idxI_at V.odd l n hlt HK.out HX.out)
        go_wp2_with fail
        refine (IH.out _ (List.getElem_mem _) _ _ D HV.out).mono ?_
        rintro e w1 ⟨rfl, hb3⟩
        rw [HX.out]
        have HBw := Lib.hid (HB.out.trans (hb3.mono HB.out.size))
        clear hb3
        go_wp2_with fail
        go_ret
        exact ⟨ret_int HX0.out.symm, HBw.out⟩
    · have hn' : n = l.length := by omega
      have HX0 := Lib.hid (idxI_no V.odd l (by have := HK.out; rwa [hn', List.take_length] at this))
      clear hbl
      go_wp2_with fail
      go_ret
      exact ⟨ret_int HX0.out.symm, HB.out⟩

theorem contains_odd (l : List V) (ih : ∀ x ∈ l, OddC x) (w : World) (a : Option Addr) (c : Nat) (D : Nat → Prop) (hl : l.length * 64 ≤ 140737488351232) (hlc : l.length ≤ c) (hcm : c ≤ 9223372036854775807)
    (ha : l = [] ∨ ∃ b o, a = some ⟨b, o, none⟩ ∧ EIn D w b o l) :
    Calls Try.prog 100 #[.slice a l.length c, .func (.func 89) #[] #[]] w
      fun e w' => e = .returned (.bool (l.any V.odd)) ∧ Below w.heap.size w w' := by
  have IH := Lib.hid ih
  have HA := Lib.hid ha
  clear ih ha
  have HN := Lib.hid (idxI_any V.odd l)
  go_enter Try.func100, Try.ntmps100
  go_wp2_with fail
  refine (index_odd l IH.out w a c D hl hlc hcm HA.out).mono ?_
  rintro e w1 ⟨rfl, hb⟩
  generalize hi : idxI V.odd l = ix
  have HI := Lib.hid hi
  have HB := Lib.hid hb
  clear hi hb
  go_wp2_with fail
  go_ret
  exact ⟨ret_bool (by rw [← HN.out, HI.out]), HB.out⟩

theorem index_great {pb d : Nat} (l : List V) (ih : ∀ x ∈ l, GreatC pb d x) (w : World) (a : Option Addr) (c : Nat) (D : Nat → Prop) (hl : l.length * 64 ≤ 140737488351232) (hlc : l.length ≤ c) (hcm : c ≤ 9223372036854775807)
    (ha : l = [] ∨ ∃ b o, a = some ⟨b, o, none⟩ ∧ EIn D w b o l) (hp : w.cell? ⟨pb, 0, none⟩ = some (.int .i64 ((d : Int) + 1))) :
    Calls Try.prog 104 #[.slice a l.length c, .func (.func 101) #[] #[.pointer (some ⟨pb, 0, none⟩)]] w
      fun e w' => e = .returned (.int .i64 (idxI (fun t => t.great d) l)) ∧ Below w.heap.size w w' := by
  have IH := Lib.hid ih
  have HA := Lib.hid ha
  clear ih ha
  go_enter Try.func104, Try.ntmps104
  go_wp2_with fail
  go_loopw [8] (fun j wr => ∃ n : Nat, n ≤ l.length ∧ j = .int .i64 n ∧ (l.take n).any (fun t => t.great d) = false ∧ Below w.heap.size w wr) (fun i _ => l.length - (intOf i).toNat)
  case atStart => exact ⟨0, by omega, rfl, rfl, Below.refl _ _⟩
  case round =>
    obtain ⟨n, hn, rfl, hk, hbl⟩ := hrel
    have HK := Lib.hid hk
    have HB := Lib.hid hbl
    clear hk
    by_cases hlt : n < l.length
    · obtain ⟨b1, o1, rfl, he1⟩ := HA.out.resolve_left (fun e => by simp [e] at hlt)
      have HE1 := Lib.hid (he1.keep (D' := D) (w' := wr) (fun b _ h => hbl.block b h) (fun _ h _ => h))
      obtain ⟨hD, sa, sc, c0, c1, c2, c3, c4, hv⟩ := HE1.out.get hlt
      have HV := Lib.hid hv
      have HP1 := Lib.hid (show wr.cell? ⟨pb, 0, none⟩ = some (.int .i64 ((d : Int) + 1)) from keepc hbl hp)
      clear hv hbl he1
      cases hx : (fun t => t.great d) l[n]
      · have HX := Lib.hid hx
        clear hx
        have HT := Lib.hid (any_take_succ (fun t => t.great d) l n hlt)
        go_wp2_with fail
        refine (IH.out _ (List.getElem_mem _) _ _ D HP1.out HV.out).mono ?_
        rintro e w1 ⟨rfl, hb3⟩
        rw [HX.out]
        have HBw := Lib.hid (HB.out.trans (hb3.mono HB.out.size))
        clear hb3
        go_wp2_with fail
        go_roundw
        case rel => exact ⟨n + 1, by omega, by go_num, by rw [HT.out, HK.out, HX.out]; rfl, HBw.out⟩
        case measure => simp [intOf]; omega
      · have HX := Lib.hid hx
        clear hx
        have HX0 := Lib.hid (idxI_at (fun t => t.great d) l n hlt HK.out HX.out)
        go_wp2_with fail
        refine (IH.out _ (List.getElem_mem _) _ _ D HP1.out HV.out).mono ?_
        rintro e w1 ⟨rfl, hb3⟩
        rw [HX.out]
        have HBw := Lib.hid (HB.out.trans (hb3.mono HB.out.size))
        clear hb3
        go_wp2_with fail
        go_ret
        exact ⟨ret_int HX0.out.symm, HBw.out⟩
    · have hn' : n = l.length := by omega
      have HX0 := Lib.hid (idxI_no (fun t => t.great d) l (by have := HK.out; rwa [hn', List.take_length] at this))
      clear hbl
      go_wp2_with fail
      go_ret
      exact ⟨ret_int HX0.out.symm, HB.out⟩

theorem contains_great {pb d : Nat} (l : List V) (ih : ∀ x ∈ l, GreatC pb d x) (w : World) (a : Option Addr) (c : Nat) (D : Nat → Prop) (hl : l.length * 64 ≤ 140737488351232) (hlc : l.length ≤ c) (hcm : c ≤ 9223372036854775807)
    (ha : l = [] ∨ ∃ b o, a = some ⟨b, o, none⟩ ∧ EIn D w b o l) (hp : w.cell? ⟨pb, 0, none⟩ = some (.int .i64 ((d : Int) + 1))) :
    Calls Try.prog 100 #[.slice a l.length c, .func (.func 101) #[] #[.pointer (some ⟨pb, 0, none⟩)]] w
      fun e w' => e = .returned (.bool (l.any (fun t => t.great d))) ∧ Below w.heap.size w w' := by
  have IH := Lib.hid ih
  have HA := Lib.hid ha
  have HP := Lib.hid hp
  clear ih ha
  have HN := Lib.hid (idxI_any (fun t => t.great d) l)
  go_enter Try.func100, Try.ntmps100
  go_wp2_with fail
  refine (index_great l IH.out w a c D hl hlc hcm HA.out HP.out).mono ?_
  rintro e w1 ⟨rfl, hb⟩
  generalize hi : idxI (fun t => t.great d) l = ix
  have HI := Lib.hid hi
  have HB := Lib.hid hb
  clear hi hb
  go_wp2_with fail
  go_ret
  exact ⟨ret_bool (by rw [← HN.out, HI.out]), HB.out⟩

theorem strange_c (t : V) : OddC t := by
  induction t using V.induct with
  | h k i f s l ih =>
  intro w sl D hv
  obtain ⟨wk, wi, wf, ws, wl, hsl⟩ := hv.parts
  simp only [V.k_mk, V.i_mk, V.f_mk, V.s_mk]
  generalize hr : (V.mk k i f s l).odd = r
  rw [V.odd_mk] at hr
  have HR := Lib.hid hr.symm
  have IH := Lib.hid ih
  have WK := Lib.hid wk
  have WI := Lib.hid wi
  clear ih hv wk wi wf ws hr
  obtain ⟨a, c, rfl, hlc, hcm, _, he⟩ := hsl
  have HA := Lib.hid he
  clear he
  by_cases k4 : k = 4
  · subst k4
    have HF := Lib.hid (show r = l.any V.odd by rw [HR.out, if_neg (by omega), if_pos rfl, V.odds_any])
    have hkk : kindI 4 = 4 := by decide
    go_enter Try.func89, Try.ntmps89
    go_wp2_with fail
    go_region_held3 (fun w' => one w w' 4 i f s (.slice a l.length c)) (first | assumption | exact one.start | exact one.keep hb1 (by assumption))
      (first | (go_at_call 74; refine (kind2_c _ _ _ _ _ _).mono ?_; rintro e w1 ⟨rfl, hb1⟩; rw [hkk]) | (go_at_call 100; refine (contains_odd l IH.out _ a c D wl hlc hcm (HA.out.imp id (fun ⟨b, o, e, h⟩ => ⟨b, o, e, h.below (show one w _ 4 i f s (.slice a l.length c) by assumption).2.1⟩))).mono ?_; rintro e w1 ⟨rfl, hb1⟩))
    have hS : one w w1 4 i f s (.slice a l.length c) := by assumption
    have HS := Lib.hid hS.2.1
    clear hS hb1
    go_wp2_with fail
    go_ret
    exact ⟨ret_bool HF.out.symm, HS.out⟩
  · by_cases k5 : k < 0 ∨ 4 < k
    · have HF := Lib.hid (show r = true by rw [HR.out, if_pos k5])
      have hkk : kindI k = 0 := by unfold kindI; rw [if_pos k5]
      have hk0 : (k != 0) = true := by simp; omega
      clear k5
      go_enter Try.func89, Try.ntmps89
      go_wp2_with fail
      refine wp_region_held_drew (S := fun w' => one w w' k i f s (.slice a l.length c)) (by kernel_rfl) one.start (fun hT => ?_)
      refine H_take 0 hT rfl (by kernel_rfl) (by kernel_rfl) (by kernel_rfl) (fun _ _ _ h => h) (by rfl) (by (intro w' hw'; (try dsimp only at hw'); go_simp; try with_reducible rfl)) ?_
      try simp only [Act.put, List.setIfInBounds_toArray, List.set_cons_zero, List.set_cons_succ]
      refine H_take 1 hT rfl (by kernel_rfl) (by kernel_rfl) (by kernel_rfl) (fun _ _ _ h => h) (by rfl) (by (intro w' hw'; (try dsimp only at hw'); go_simp; try with_reducible rfl)) ?_
      try simp only [Act.put, List.setIfInBounds_toArray, List.set_cons_zero, List.set_cons_succ]
      refine H_take 2 hT rfl (by kernel_rfl) (by kernel_rfl) (by kernel_rfl) (fun _ _ _ h => h) (by rfl) (by (intro w' hw'; (try dsimp only at hw'); go_simp; try with_reducible rfl)) ?_
      try simp only [Act.put, List.setIfInBounds_toArray, List.set_cons_zero, List.set_cons_succ]
      refine H_one 3 rfl (by kernel_rfl) (fun K hK => ?_)
      rw [if_pos (by rfl)]
      go_simp
      refine (kind2_c _ _ _ _ _ _).mono ?_
      rintro e w1 ⟨rfl, hb1⟩
      rw [hkk]
      refine hK _ _ (one.keep hb1 hT) (fun hT1 => ?_)
      try simp only [Act.put, List.setIfInBounds_toArray, List.set_cons_zero, List.set_cons_succ]
      clear hT hb1 hK
      refine H_take 4 hT1 rfl (by kernel_rfl) (by kernel_rfl) (by kernel_rfl) (fun _ _ _ h => h) (by rfl) (by (intro w' hw'; (try dsimp only at hw'); go_simp; try with_reducible rfl)) ?_
      try simp only [Act.put, List.setIfInBounds_toArray, List.set_cons_zero, List.set_cons_succ]
      refine H_take 5 hT1 rfl (by kernel_rfl) (by kernel_rfl) (by kernel_rfl) (fun _ _ _ h => h) (by rfl) (by (intro w' hw'; (try dsimp only at hw'); go_simp; try with_reducible rfl)) ?_
      try simp only [Act.put, List.setIfInBounds_toArray, List.set_cons_zero, List.set_cons_succ]
      refine H_skip 6 hT1 rfl (by kernel_rfl) (by kernel_rfl) (by kernel_rfl) (fun _ _ _ h => h) (by rfl) ?_
      try simp only [Act.put, List.setIfInBounds_toArray, List.set_cons_zero, List.set_cons_succ]
      refine H_skip 7 hT1 rfl (by kernel_rfl) (by kernel_rfl) (by kernel_rfl) (fun _ _ _ h => h) (by rfl) ?_
      try simp only [Act.put, List.setIfInBounds_toArray, List.set_cons_zero, List.set_cons_succ]
      refine H_skip 8 hT1 rfl (by kernel_rfl) (by kernel_rfl) (by kernel_rfl) (fun _ _ _ h => h) (by rfl) ?_
      try simp only [Act.put, List.setIfInBounds_toArray, List.set_cons_zero, List.set_cons_succ]
      refine H_skip 9 hT1 rfl (by kernel_rfl) (by kernel_rfl) (by kernel_rfl) (fun _ _ _ h => h) (by rfl) ?_
      try simp only [Act.put, List.setIfInBounds_toArray, List.set_cons_zero, List.set_cons_succ]
      refine H_skip 10 hT1 rfl (by kernel_rfl) (by kernel_rfl) (by kernel_rfl) (fun _ _ _ h => h) (by rfl) ?_
      try simp only [Act.put, List.setIfInBounds_toArray, List.set_cons_zero, List.set_cons_succ]
      refine H_skip 11 hT1 rfl (by kernel_rfl) (by kernel_rfl) (by kernel_rfl) (fun _ _ _ h => h) (by rfl) ?_
      try simp only [Act.put, List.setIfInBounds_toArray, List.set_cons_zero, List.set_cons_succ]
      refine H_skip 12 hT1 rfl (by kernel_rfl) (by kernel_rfl) (by kernel_rfl) (fun _ _ _ h => h) (by rfl) ?_
      try simp only [Act.put, List.setIfInBounds_toArray, List.set_cons_zero, List.set_cons_succ]
      refine H_skip 13 hT1 rfl (by kernel_rfl) (by kernel_rfl) (by kernel_rfl) (fun _ _ _ h => h) (by rfl) ?_
      try simp only [Act.put, List.setIfInBounds_toArray, List.set_cons_zero, List.set_cons_succ]
      refine H_take 14 hT1 rfl (by kernel_rfl) (by kernel_rfl) (by kernel_rfl) (fun _ _ _ h => h) (by rfl) (by (intro w' hw'; (try dsimp only at hw'); go_simp; try with_reducible rfl)) ?_
      try simp only [Act.put, List.setIfInBounds_toArray, List.set_cons_zero, List.set_cons_succ]
      refine H_take 15 hT1 rfl (by kernel_rfl) (by kernel_rfl) (by kernel_rfl) (fun _ _ _ h => h) (by rfl) (by (intro w' hw'; (try dsimp only at hw'); go_simp; try with_reducible rfl)) ?_
      try simp only [Act.put, List.setIfInBounds_toArray, List.set_cons_zero, List.set_cons_succ]
      refine wpAnyH_done (by kernel_rfl) ?_ _
      have HS := Lib.hid hT1.2.1
      clear hT1
      go_wp2_with fail
      go_ret
      exact ⟨ret_bool HF.out.symm, HS.out⟩
    · have HF := Lib.hid (show r = false by rw [HR.out, if_neg k5, if_neg k4])
      have hkk : kindI k = k := by unfold kindI; rw [if_neg k5]
      have hk0 : (k != k) = false := by simp
      have hk4 : (k == 4) = false := by simpa using k4
      clear k5 k4
      go_enter Try.func89, Try.ntmps89
      go_wp2_with fail
      refine wp_region_held_drew (S := fun w' => one w w' k i f s (.slice a l.length c)) (by kernel_rfl) one.start (fun hT => ?_)
      refine H_take 0 hT rfl (by kernel_rfl) (by kernel_rfl) (by kernel_rfl) (fun _ _ _ h => h) (by rfl) (by (intro w' hw'; (try dsimp only at hw'); go_simp; try with_reducible rfl)) ?_
      try simp only [Act.put, List.setIfInBounds_toArray, List.set_cons_zero, List.set_cons_succ]
      refine H_take 1 hT rfl (by kernel_rfl) (by kernel_rfl) (by kernel_rfl) (fun _ _ _ h => h) (by rfl) (by (intro w' hw'; (try dsimp only at hw'); go_simp; try with_reducible rfl)) ?_
      try simp only [Act.put, List.setIfInBounds_toArray, List.set_cons_zero, List.set_cons_succ]
      refine H_take 2 hT rfl (by kernel_rfl) (by kernel_rfl) (by kernel_rfl) (fun _ _ _ h => h) (by rfl) (by (intro w' hw'; (try dsimp only at hw'); go_simp; try with_reducible rfl)) ?_
      try simp only [Act.put, List.setIfInBounds_toArray, List.set_cons_zero, List.set_cons_succ]
      refine H_one 3 rfl (by kernel_rfl) (fun K hK => ?_)
      rw [if_pos (by rfl)]
      go_simp
      refine (kind2_c _ _ _ _ _ _).mono ?_
      rintro e w1 ⟨rfl, hb1⟩
      rw [hkk]
      refine hK _ _ (one.keep hb1 hT) (fun hT1 => ?_)
      try simp only [Act.put, List.setIfInBounds_toArray, List.set_cons_zero, List.set_cons_succ]
      clear hT hb1 hK
      refine H_take 4 hT1 rfl (by kernel_rfl) (by kernel_rfl) (by kernel_rfl) (fun _ _ _ h => h) (by rfl) (by (intro w' hw'; (try dsimp only at hw'); go_simp; try with_reducible rfl)) ?_
      try simp only [Act.put, List.setIfInBounds_toArray, List.set_cons_zero, List.set_cons_succ]
      refine H_take 5 hT1 rfl (by kernel_rfl) (by kernel_rfl) (by kernel_rfl) (fun _ _ _ h => h) (by rfl) (by (intro w' hw'; (try dsimp only at hw'); go_simp; try with_reducible rfl)) ?_
      try simp only [Act.put, List.setIfInBounds_toArray, List.set_cons_zero, List.set_cons_succ]
      refine H_take 6 hT1 rfl (by kernel_rfl) (by kernel_rfl) (by kernel_rfl) (fun _ _ _ h => h) (by rfl) (by (intro w' hw'; (try dsimp only at hw'); go_simp; try with_reducible rfl)) ?_
      try simp only [Act.put, List.setIfInBounds_toArray, List.set_cons_zero, List.set_cons_succ]
      refine H_take 7 hT1 rfl (by kernel_rfl) (by kernel_rfl) (by kernel_rfl) (fun _ _ _ h => h) (by rfl) (by (intro w' hw'; (try dsimp only at hw'); go_simp; try with_reducible rfl)) ?_
      try simp only [Act.put, List.setIfInBounds_toArray, List.set_cons_zero, List.set_cons_succ]
      refine H_take 8 hT1 rfl (by kernel_rfl) (by kernel_rfl) (by kernel_rfl) (fun _ _ _ h => h) (by rfl) (by (intro w' hw'; (try dsimp only at hw'); go_simp; try with_reducible rfl)) ?_
      try simp only [Act.put, List.setIfInBounds_toArray, List.set_cons_zero, List.set_cons_succ]
      refine H_take 9 hT1 rfl (by kernel_rfl) (by kernel_rfl) (by kernel_rfl) (fun _ _ _ h => h) (by rfl) (by (intro w' hw'; (try dsimp only at hw'); go_simp; try with_reducible rfl)) ?_
      try simp only [Act.put, List.setIfInBounds_toArray, List.set_cons_zero, List.set_cons_succ]
      refine H_skip 10 hT1 rfl (by kernel_rfl) (by kernel_rfl) (by kernel_rfl) (fun _ _ _ h => h) (by rfl) ?_
      try simp only [Act.put, List.setIfInBounds_toArray, List.set_cons_zero, List.set_cons_succ]
      refine H_skip 11 hT1 rfl (by kernel_rfl) (by kernel_rfl) (by kernel_rfl) (fun _ _ _ h => h) (by rfl) ?_
      try simp only [Act.put, List.setIfInBounds_toArray, List.set_cons_zero, List.set_cons_succ]
      refine H_skip 12 hT1 rfl (by kernel_rfl) (by kernel_rfl) (by kernel_rfl) (fun _ _ _ h => h) (by rfl) ?_
      try simp only [Act.put, List.setIfInBounds_toArray, List.set_cons_zero, List.set_cons_succ]
      refine H_take 13 hT1 rfl (by kernel_rfl) (by kernel_rfl) (by kernel_rfl) (fun _ _ _ h => h) (by rfl) (by (intro w' hw'; (try dsimp only at hw'); go_simp; try with_reducible rfl)) ?_
      try simp only [Act.put, List.setIfInBounds_toArray, List.set_cons_zero, List.set_cons_succ]
      refine H_take 14 hT1 rfl (by kernel_rfl) (by kernel_rfl) (by kernel_rfl) (fun _ _ _ h => h) (by rfl) (by (intro w' hw'; (try dsimp only at hw'); go_simp; try with_reducible rfl)) ?_
      try simp only [Act.put, List.setIfInBounds_toArray, List.set_cons_zero, List.set_cons_succ]
      refine H_take 15 hT1 rfl (by kernel_rfl) (by kernel_rfl) (by kernel_rfl) (fun _ _ _ h => h) (by rfl) (by (intro w' hw'; (try dsimp only at hw'); go_simp; try with_reducible rfl)) ?_
      try simp only [Act.put, List.setIfInBounds_toArray, List.set_cons_zero, List.set_cons_succ]
      refine wpAnyH_done (by kernel_rfl) ?_ _
      have HS := Lib.hid hT1.2.1
      clear hT1
      go_wp2_with fail
      go_ret
      exact ⟨ret_bool HF.out.symm, HS.out⟩

def GreatF (x : V) : Prop := ∀ (d : Nat) (w : World) (sl : Value) (D : Nat → Prop), d ≤ 8 → VIn D w x sl →
  Calls Try.prog 90 #[.agg #[.int .i64 x.k, .int .i64 x.i, .float .f64 x.f, .string x.s, sl], .int .i64 d] w fun e w' => e = .returned (.bool (x.great d)) ∧ Below w.heap.size w w'

theorem greatClosure_c (pb d : Nat) (hd : d < 8) (x : V) (h : GreatF x) : GreatC pb d x := by
  intro w sl D hp hv
  obtain ⟨a, c, rfl⟩ := hv.form
  have HG := Lib.hid (h d (w.alloc (.cells #[.int .i64 x.k, .int .i64 x.i, .float .f64 x.f, .string x.s, .slice a x.l.length c] 43)) _ D (by omega) (hv.below ((Below.refl _ _).alloc (Nat.le_refl _) _)))
  have hlt := World.block_lt_of_cell? w _ hp
  obtain ⟨k, i, f, s, l⟩ := x
  simp only [V.k_mk, V.i_mk, V.f_mk, V.s_mk, V.l_mk] at HG ⊢
  clear h hv
  have HB := Lib.hid ((Below.refl w.heap.size w).alloc (Nat.le_refl _) (.cells #[.int .i64 k, .int .i64 i, .float .f64 f, .string s, .slice a l.length c] 43))
  generalize hr : (V.mk k i f s l).great d = r at *
  have HR := Lib.hid hr
  clear hr
  go_enter Try.func101, Try.ntmps101
  go_wp2_with fail
  refine HG.out.mono ?_
  rintro e w1 ⟨rfl, hb1⟩
  have HB1 := Lib.hid (HB.out.trans (hb1.mono (by simp)))
  clear hb1
  go_wp2_with fail
  go_ret
  exact ⟨rfl, HB1.out⟩

theorem great2_c (t : V) : GreatF t := by
  induction t using V.induct with
  | h k i f s l ih =>
  intro d w sl D hd8 hv
  obtain ⟨wk, wi, wf, ws, wl, hsl⟩ := hv.parts
  simp only [V.k_mk, V.i_mk, V.f_mk, V.s_mk]
  generalize hr : (V.mk k i f s l).great d = r
  rw [V.great_mk] at hr
  have HR := Lib.hid hr.symm
  have IH := Lib.hid ih
  have WK := Lib.hid wk
  have WI := Lib.hid wi
  have HBB := Lib.hid (fun o o' => (((Below.refl w.heap.size w).alloc (Nat.le_refl _) o).alloc (by simp) o' : Below w.heap.size w ((w.alloc o).alloc o')))
  clear ih hv wk wi wf hr
  obtain ⟨a, c, rfl, hlc, hcm, _, he⟩ := hsl
  have HA := Lib.hid he
  clear he
  by_cases k3 : k = 3
  · subst k3
    have HF := Lib.hid (show r = decide (256 < s.size) by rw [HR.out]; simp)
    by_cases hs : (256 : Int) < s.size
    all_goals
      go_enter Try.func90, Try.ntmps90
      go_wp2_with fail
      go_ret
      exact ⟨ret_bool (by rw [HF.out]; simp; try omega), HBB.out _ _⟩
  by_cases k4 : k = 4
  · subst k4
    by_cases hl : (64 : Int) < l.length
    · have HF := Lib.hid (show r = true by rw [HR.out]; rw [if_neg (by omega), if_pos rfl, if_pos (.inl (by omega))])
      go_enter Try.func90, Try.ntmps90
      go_wp2_with fail
      go_ret
      exact ⟨ret_bool HF.out.symm, HBB.out _ _⟩
    cases d with
    | zero =>
      have HF := Lib.hid (show r = true by rw [HR.out]; simp)
      go_enter Try.func90, Try.ntmps90
      go_wp2_with fail
      go_ret
      exact ⟨ret_bool HF.out.symm, HBB.out _ _⟩
    | succ d =>
      have HR1 := Lib.hid (show r = l.any (fun t => t.great d) by rw [HR.out, if_neg (by omega), if_pos rfl, if_neg (by omega), V.greats_any]; rfl)
      have hmf : ∀ (fn : Fn) (first cap : Array Value) (w : World), (Instr.makeFunc fn first cap).run Try.prog w = .ok (.func fn first cap) w := fun _ _ _ _ => rfl
      have hd1 : (1 : Int) ≤ ((d + 1 : Nat) : Int) := by omega
      have HD := Lib.hid (show d < 8 by omega)
      go_enter Try.func90, Try.ntmps90
      go_wp2_with fail
      refine (contains_great (pb := w.heap.size + 1) (d := d) l (fun x hx => greatClosure_c _ d HD.out x (IH.out x hx)) _ a c D wl hlc hcm (HA.out.imp id (fun ⟨b, o, e, h⟩ => ⟨b, o, e, h.below (HBB.out _ _)⟩)) (by simp)).mono ?_
      rintro e w1 ⟨rfl, hb1⟩
      have HB1 := Lib.hid ((HBB.out _ _).trans (hb1.mono (by simp; omega)))
      clear hb1
      go_wp2_with fail
      go_ret
      exact ⟨ret_bool HR1.out.symm, HB1.out⟩
  · have HF := Lib.hid (show r = false by rw [HR.out, if_neg k3, if_neg k4])
    have k3b : (k == 3) = false := by simpa using k3
    have k4b : (k == 4) = false := by simpa using k4
    go_enter Try.func90, Try.ntmps90
    go_wp2_with fail
    go_ret
    exact ⟨ret_bool HF.out.symm, HBB.out _ _⟩

theorem check2_c (t : V) (w : World) (sl : Value) (D : Nat → Prop) (hv : VIn D w t sl) :
    Calls Try.prog 69 #[.agg #[.int .i64 t.k, .int .i64 t.i, .float .f64 t.f, .string t.s, sl]] w fun e w' => e = .returned (.int .i64 t.check) ∧ Below w.heap.size w w' := by
  have HV := Lib.hid hv
  obtain ⟨a, c, rfl⟩ := hv.form
  obtain ⟨k, i, f, s, l⟩ := t
  simp only [V.k_mk, V.i_mk, V.f_mk, V.s_mk, V.l_mk] at HV ⊢
  have HBB := Lib.hid (fun o => ((Below.refl w.heap.size w).alloc (Nat.le_refl _) o : Below w.heap.size w (w.alloc o)))
  clear hv
  generalize hr : (V.mk k i f s l).check = r
  have HR := Lib.hid hr.symm
  clear hr
  have hat : ∀ w1, Below (w.alloc (.cells #[.int .i64 k, .int .i64 i, .float .f64 f, .string s, .slice a l.length c] 43)).heap.size (w.alloc (.cells #[.int .i64 k, .int .i64 i, .float .f64 f, .string s, .slice a l.length c] 43)) w1 →
    at5 w1 w.heap.size k i f s (.slice a l.length c) := fun w1 h => at5.new.keep h
  have HAT := Lib.hid hat
  clear hat
  cases ho : (V.mk k i f s l).odd with
  | true =>
    have HF := Lib.hid (show r = 31 by rw [HR.out]; unfold V.check; rw [ho]; rfl)
    have HO := Lib.hid ho
    clear ho
    go_enter Try.func69, Try.ntmps69
    go_wp2_with fail
    refine (strange_c (.mk k i f s l) _ _ _ (HV.out.below (HBB.out _))).mono ?_
    rintro e w1 ⟨rfl, hb1⟩
    rw [HO.out]
    have HB1 := Lib.hid ((HBB.out _).trans (hb1.mono (by simp)))
    clear hb1
    go_wp2_with fail
    go_ret
    exact ⟨ret_int HF.out.symm, HB1.out⟩
  | false =>
    cases hg : (V.mk k i f s l).great 8 with
    | true =>
      have HF := Lib.hid (show r = 22 by rw [HR.out]; unfold V.check; rw [ho, hg]; rfl)
      have HO := Lib.hid ho
      have HG := Lib.hid hg
      clear ho hg
      go_enter Try.func69, Try.ntmps69
      go_wp2_with fail
      refine (strange_c (.mk k i f s l) _ _ _ (HV.out.below (HBB.out _))).mono ?_
      rintro e w1 ⟨rfl, hb1⟩
      rw [HO.out]
      obtain ⟨c0, c1, c2, c3, c4⟩ := HAT.out w1 hb1
      have HB1 := Lib.hid ((HBB.out _).trans (hb1.mono (by simp)))
      clear hb1
      go_wp2_with fail
      refine (great2_c (.mk k i f s l) 8 _ _ _ (by omega) (HV.out.below HB1.out)).mono ?_
      rintro e w2 ⟨rfl, hb2⟩
      rw [HG.out]
      have HB2 := Lib.hid (HB1.out.trans (hb2.mono HB1.out.size))
      clear hb2
      go_wp2_with fail
      go_ret
      exact ⟨ret_int HF.out.symm, HB2.out⟩
    | false =>
      cases hs : decide ((4096 : Int) < wrap64 (V.mk k i f s l).size)
      all_goals
        have HF := Lib.hid (show r = if decide ((4096 : Int) < wrap64 (V.mk k i f s l).size) then 22 else 0 by rw [HR.out]; unfold V.check; rw [ho, hg]; simp)
        rw [hs] at HF
        have HO := Lib.hid ho
        have HG := Lib.hid hg
        clear ho hg
        go_enter Try.func69, Try.ntmps69
        go_wp2_with fail
        refine (strange_c (.mk k i f s l) _ _ _ (HV.out.below (HBB.out _))).mono ?_
        rintro e w1 ⟨rfl, hb1⟩
        rw [HO.out]
        have h5 := HAT.out w1 hb1
        obtain ⟨c0, c1, c2, c3, c4⟩ := id h5
        have H5 := Lib.hid h5
        have HB1 := Lib.hid ((HBB.out _).trans (hb1.mono (by simp)))
        clear hb1 h5
        go_wp2_with fail
        refine (great2_c (.mk k i f s l) 8 _ _ _ (by omega) (HV.out.below HB1.out)).mono ?_
        rintro e w2 ⟨rfl, hb2⟩
        rw [HG.out]
        clear c0 c1 c2 c3 c4
        obtain ⟨c0, c1, c2, c3, c4⟩ := H5.out.keep hb2
        have HB2 := Lib.hid (HB1.out.trans (hb2.mono HB1.out.size))
        clear hb2
        go_wp2_with fail
        refine (size2_c (.mk k i f s l) _ _ _ (HV.out.below HB2.out)).mono ?_
        rintro e w3 ⟨rfl, hb3⟩
        generalize wrap64 (V.mk k i f s l).size = z at *
        have HB3 := Lib.hid (HB2.out.trans (hb3.mono HB2.out.size))
        clear hb3
        go_wp2_with fail
        go_ret
        exact ⟨ret_int (by rw [HF.out]; rfl), HB3.out⟩
end Go.Proofs.Ytkhgbbloeeaceaa
