/- May a value be? The reference's telling. -/
import Derived.Test.YtkhgbbloeeaceaaD
namespace Go.Proofs.Ytkhgbbloeeaceaa
open Go Go.RowKit
set_option maxRecDepth 16000
attribute [local go_sem ↓] run_store_float

mutual
/-- Of no kind, or something in it is. -/
def V.odd : V → Bool
  | .mk k _ _ _ l => if k < 0 ∨ 4 < k then true else if k = 4 then V.odds l else false
def V.odds : List V → Bool
  | [] => false
  | t :: ts => V.odd t || V.odds ts
end
theorem V.odd_mk (k i f s l) : (V.mk k i f s l).odd = if k < 0 ∨ 4 < k then true else if k = 4 then V.odds l else false := by rw [V.odd]
theorem V.odds_any (l) : V.odds l = l.any V.odd := by
  induction l with
  | nil => rw [V.odds]; rfl
  | cons t ts ih => rw [V.odds, ih]; rfl
mutual
/-- Too great, where lists may be d deep. -/
def V.great : V → Nat → Bool
  | .mk k _ _ s l, d => if k = 3 then decide (256 < s.size) else if k = 4 then (if 64 < l.length ∨ d = 0 then true else V.greats l (d - 1)) else false
def V.greats : List V → Nat → Bool
  | [], _ => false
  | t :: ts, d => V.great t d || V.greats ts d
end
theorem V.great_mk (k i f s l d) : (V.mk k i f s l).great d = if k = 3 then decide (256 < s.size) else if k = 4 then (if 64 < l.length ∨ d = 0 then true else V.greats l (d - 1)) else false := by rw [V.great]
theorem V.greats_any (l d) : V.greats l d = l.any (fun t => t.great d) := by
  induction l with
  | nil => rw [V.greats]; rfl
  | cons t ts ih => rw [V.greats, ih]; rfl
/-- 0: it may be; else an error's number. -/
def V.check (t : V) : Int := if t.odd then 31 else if t.great 8 then 22 else if 4096 < wrap64 t.size then 22 else 0

theorem kinds_c (t : V) : ∀ (w : World) (sl : Value) (D : Nat → Prop), VIn D w t sl →
    Calls Try.prog 83 #[.agg #[.int .i64 t.k, .int .i64 t.i, .float .f64 t.f, .string t.s, sl]] w fun e w' => e = .returned (.bool (!t.odd)) ∧ Below w.heap.size w w' := by
  induction t using V.induct with
  | h k i f s l ih =>
  intro w sl D hv
  obtain ⟨wk, wi, wf, ws, wl, hsl⟩ := hv.parts
  simp only [V.k_mk, V.i_mk, V.f_mk, V.s_mk]
  generalize hr : (V.mk k i f s l).odd = r
  rw [V.odd_mk] at hr
  have HR := Lib.hid hr.symm
  have IH := Lib.hid ih
  have WK := Lib.hid wk
  have WI := Lib.hid wi
  have HBB := Lib.hid (fun o => ((Below.refl w.heap.size w).alloc (Nat.le_refl _) o : Below w.heap.size w (w.alloc o)))
  clear ih hv wk wi wf ws hr
  obtain ⟨a, c, rfl, hlc, hcm, _, he⟩ := hsl
  by_cases k0 : k < 0
  · have HF := Lib.hid (show r = true by rw [HR.out, if_pos (.inl k0)])
    go_enter Try.func83, Try.ntmps83
    go_wp2_with fail
    go_ret
    exact ⟨ret_bool (by rw [HF.out]; rfl), HBB.out _⟩
  by_cases k5 : 4 < k
  · have HF := Lib.hid (show r = true by rw [HR.out, if_pos (.inr k5)])
    go_enter Try.func83, Try.ntmps83
    go_wp2_with fail
    go_ret
    exact ⟨ret_bool (by rw [HF.out]; rfl), HBB.out _⟩
  by_cases k4 : k = 4
  · subst k4
    have HR1 := Lib.hid (show r = l.any V.odd by rw [HR.out, if_neg (by omega), if_pos rfl, V.odds_any])
    have k0 : (0 : Int) ≤ 4 := by omega
    go_enter Try.func83, Try.ntmps83
    go_wp2_with fail
    go_loopw [3] (fun j wr => ∃ m : Nat, m ≤ l.length ∧ j = .int .i64 m ∧ (l.take m).any V.odd = false ∧ Below w.heap.size w wr ∧ w.heap.size < wr.heap.size ∧ wr.cell? ⟨w.heap.size, 0, none⟩ = some (.int .i64 4) ∧ wr.cell? ⟨w.heap.size, 4, none⟩ = some (.slice a l.length c)) (fun i _ => l.length - (intOf i).toNat)
    case atStart => exact ⟨0, by omega, rfl, rfl, HBB.out _, by simp, by simp, by simp⟩
    case round =>
      obtain ⟨m, hm, rfl, hd, hb, hz, hc0, hc⟩ := hrel
      have HD := Lib.hid hd
      have HB := Lib.hid hb
      clear hd
      by_cases hlt : m < l.length
      · obtain ⟨b, o, rfl, he1⟩ := he.resolve_left (fun e => by simp [e] at hlt)
        have HE := Lib.hid (he1.keep (D' := D) (w' := wr) (fun b _ h => hb.block b h) (fun _ h _ => h))
        obtain ⟨hD, sa, sc, c0, c1, c2, c3, c4, hv⟩ := HE.out.get hlt
        have HV := Lib.hid hv
        have HS := Lib.hid (any_take_succ V.odd l m hlt)
        clear hv hb
        cases hx : V.odd l[m]
        all_goals
          have HX := Lib.hid hx
          clear hx
          go_wp2_with fail
          refine (IH.out _ (List.getElem_mem _) _ _ _ HV.out).mono ?_
          rintro e w1 ⟨rfl, hb1⟩
          rw [HX.out]
          have hc1 := (hb1.cell (p := ⟨w.heap.size, 4, none⟩) hz).trans hc
          have hc2 := (hb1.cell (p := ⟨w.heap.size, 0, none⟩) hz).trans hc0
          have hz1 : w.heap.size < w1.heap.size := Nat.lt_of_lt_of_le hz hb1.size
          have HB1 := Lib.hid (HB.out.trans (hb1.mono (Nat.le_of_lt hz)))
          clear hb1 hc
          go_wp2_with fail
        · go_roundw
          case rel => exact ⟨m + 1, by omega, by go_num, by rw [HS.out, HD.out, HX.out]; rfl, HB1.out, hz1, hc2, hc1⟩
          case measure => simp [intOf]; omega
        · go_ret
          exact ⟨ret_bool (by rw [HR1.out, any_of_get V.odd l m hlt HX.out]; rfl), HB1.out⟩
      · have hm' : m = l.length := by omega
        have HF := Lib.hid (show r = false by rw [HR1.out]; have := HD.out; rwa [hm', List.take_length] at this)
        clear hb
        subst hm'
        go_wp2_with fail
        go_ret
        exact ⟨ret_bool (by rw [HF.out]; rfl), HB.out⟩
  · have HF := Lib.hid (show r = false by rw [HR.out, if_neg (by omega), if_neg k4])
    have k4b : (k == 4) = false := by simpa using k4
    have HA := Lib.hid he
    clear he
    go_enter Try.func83, Try.ntmps83
    go_wp2_with fail
    go_loopw [3] (fun j wr => j = .int .i64 0 ∧ Below w.heap.size w wr ∧ wr.cell? ⟨w.heap.size, 0, none⟩ = some (.int .i64 k) ∧ wr.cell? ⟨w.heap.size, 4, none⟩ = some (.slice a l.length c)) (fun _ _ => 0)
    case atStart => exact ⟨rfl, HBB.out _, by simp, by simp⟩
    case round =>
      obtain ⟨rfl, hb, hc0, hc⟩ := hrel
      have HB := Lib.hid hb
      clear hb
      by_cases hl : 0 < l.length
      · go_wp2_with fail
        go_ret
        exact ⟨ret_bool (by rw [HF.out]; rfl), HB.out⟩
      · go_wp2_with fail
        go_ret
        exact ⟨ret_bool (by rw [HF.out]; rfl), HB.out⟩

theorem great1_c (t : V) : ∀ (n : Int) (w : World) (sl : Value) (D : Nat → Prop), 0 ≤ n → n ≤ 8 → VIn D w t sl →
    Calls Try.prog 84 #[.agg #[.int .i64 t.k, .int .i64 t.i, .float .f64 t.f, .string t.s, sl], .int .i64 n] w fun e w' => e = .returned (.bool (t.great (8 - n).toNat)) ∧ Below w.heap.size w w' := by
  induction t using V.induct with
  | h k i f s l ih =>
  intro n w sl D hn0 hn8 hv
  obtain ⟨wk, wi, wf, ws, wl, hsl⟩ := hv.parts
  simp only [V.k_mk, V.i_mk, V.f_mk, V.s_mk]
  generalize hr : (V.mk k i f s l).great (8 - n).toNat = r
  rw [V.great_mk] at hr
  have HR := Lib.hid hr.symm
  have IH := Lib.hid ih
  have WK := Lib.hid wk
  have WI := Lib.hid wi
  have HBB := Lib.hid (fun o => ((Below.refl w.heap.size w).alloc (Nat.le_refl _) o : Below w.heap.size w (w.alloc o)))
  clear ih hv wk wi wf hr
  obtain ⟨a, c, rfl, hlc, hcm, _, he⟩ := hsl
  by_cases k3 : k = 3
  · subst k3
    have HF := Lib.hid (show r = decide (256 < s.size) by rw [HR.out]; simp)
    by_cases hs : (256 : Int) < s.size
    all_goals
      go_enter Try.func84, Try.ntmps84
      go_wp2_with fail
      go_ret
      exact ⟨ret_bool (by rw [HF.out]; simp; try omega), HBB.out _⟩
  by_cases k4 : k = 4
  · subst k4
    by_cases hg : n = 8
    · subst hg
      have HF := Lib.hid (show r = true by rw [HR.out]; simp)
      go_enter Try.func84, Try.ntmps84
      go_wp2_with fail
      go_ret
      exact ⟨ret_bool HF.out.symm, HBB.out _⟩
    have hn7 : n < 8 := by omega
    by_cases hl : (64 : Int) < l.length
    · have HF := Lib.hid (show r = true by rw [HR.out]; rw [if_neg (by omega), if_pos rfl, if_pos (.inl (by omega))])
      go_enter Try.func84, Try.ntmps84
      go_wp2_with fail
      go_ret
      exact ⟨ret_bool HF.out.symm, HBB.out _⟩
    have HR1 := Lib.hid (show r = l.any (fun t => t.great (8 - (n + 1)).toNat) by rw [HR.out, if_neg (by omega), if_pos rfl, if_neg (by omega), V.greats_any, show (8 - n).toNat - 1 = (8 - (n + 1)).toNat by omega])
    go_enter Try.func84, Try.ntmps84
    go_wp2_with fail
    go_loopw [5] (fun j wr => ∃ m : Nat, m ≤ l.length ∧ j = .int .i64 m ∧ (l.take m).any (fun t => t.great (8 - (n + 1)).toNat) = false ∧ Below w.heap.size w wr ∧ w.heap.size < wr.heap.size ∧ wr.cell? ⟨w.heap.size, 4, none⟩ = some (.slice a l.length c)) (fun i _ => l.length - (intOf i).toNat)
    case atStart => exact ⟨0, by omega, rfl, rfl, HBB.out _, by simp, by simp⟩
    case round =>
      obtain ⟨m, hm, rfl, hd, hb, hz, hc⟩ := hrel
      have HD := Lib.hid hd
      have HB := Lib.hid hb
      clear hd
      by_cases hlt : m < l.length
      · obtain ⟨b, o, rfl, he1⟩ := he.resolve_left (fun e => by simp [e] at hlt)
        have HE := Lib.hid (he1.keep (D' := D) (w' := wr) (fun b _ h => hb.block b h) (fun _ h _ => h))
        obtain ⟨hD, sa, sc, c0, c1, c2, c3, c4, hv⟩ := HE.out.get hlt
        have HV := Lib.hid hv
        have HS := Lib.hid (any_take_succ (fun t => V.great t (8 - (n + 1)).toNat) l m hlt)
        clear hv hb
        cases hx : V.great l[m] (8 - (n + 1)).toNat
        all_goals
          have HX := Lib.hid hx
          clear hx
          go_wp2_with fail
          refine (IH.out _ (List.getElem_mem _) _ _ _ _ (by omega) (by omega) HV.out).mono ?_
          rintro e w1 ⟨rfl, hb1⟩
          rw [HX.out]
          have hc1 := (hb1.cell (p := ⟨w.heap.size, 4, none⟩) hz).trans hc
          have hz1 : w.heap.size < w1.heap.size := Nat.lt_of_lt_of_le hz hb1.size
          have HB1 := Lib.hid (HB.out.trans (hb1.mono (Nat.le_of_lt hz)))
          clear hb1 hc
          go_wp2_with fail
        · go_roundw
          case rel => exact ⟨m + 1, by omega, by go_num, by rw [HS.out, HD.out, HX.out]; rfl, HB1.out, hz1, hc1⟩
          case measure => simp [intOf]; omega
        · go_ret
          exact ⟨ret_bool (by rw [HR1.out, any_of_get _ l m hlt HX.out]), HB1.out⟩
      · have hm' : m = l.length := by omega
        have HF := Lib.hid (show r = false by rw [HR1.out]; have := HD.out; rwa [hm', List.take_length] at this)
        clear hb
        subst hm'
        go_wp2_with fail
        go_ret
        exact ⟨ret_bool (by rw [HF.out]), HB.out⟩
  · have HF := Lib.hid (show r = false by rw [HR.out, if_neg k3, if_neg k4])
    have k3b : (k == 3) = false := by simpa using k3
    have k4b : (k != 4) = true := by simpa using k4
    go_enter Try.func84, Try.ntmps84
    go_wp2_with fail
    go_ret
    exact ⟨ret_bool HF.out.symm, HBB.out _⟩

theorem check1_c (t : V) (w : World) (sl : Value) (D : Nat → Prop) (hv : VIn D w t sl) :
    Calls Try.prog 61 #[.agg #[.int .i64 t.k, .int .i64 t.i, .float .f64 t.f, .string t.s, sl]] w fun e w' => e = .returned (.int .i64 t.check) ∧ Below w.heap.size w w' := by
  have HV := Lib.hid hv
  obtain ⟨a, c, rfl⟩ := hv.form
  obtain ⟨k, i, f, s, l⟩ := t
  simp only [V.k_mk, V.i_mk, V.f_mk, V.s_mk, V.l_mk] at HV ⊢
  have HBB := Lib.hid (fun o => ((Below.refl w.heap.size w).alloc (Nat.le_refl _) o : Below w.heap.size w (w.alloc o)))
  clear hv
  generalize hr : (V.mk k i f s l).check = r
  have HR := Lib.hid hr.symm
  clear hr
  have hat : ∀ w1, Below (w.alloc (.cells #[.int .i64 k, .int .i64 i, .float .f64 f, .string s, .slice a l.length c] 43)).heap.size (w.alloc (.cells #[.int .i64 k, .int .i64 i, .float .f64 f, .string s, .slice a l.length c] 43)) w1 →
    at5 w1 w.heap.size k i f s (.slice a l.length c) := fun w1 h => at5.new.keep h
  have HAT := Lib.hid hat
  clear hat
  cases ho : (V.mk k i f s l).odd with
  | true =>
    have HF := Lib.hid (show r = 31 by rw [HR.out]; unfold V.check; rw [ho]; rfl)
    have HO := Lib.hid ho
    clear ho
    go_enter Try.func61, Try.ntmps61
    go_wp2_with fail
    refine (kinds_c (.mk k i f s l) _ _ _ (HV.out.below (HBB.out _))).mono ?_
    rintro e w1 ⟨rfl, hb1⟩
    rw [HO.out]
    have HB1 := Lib.hid ((HBB.out _).trans (hb1.mono (by simp)))
    clear hb1
    go_wp2_with fail
    go_ret
    exact ⟨ret_int HF.out.symm, HB1.out⟩
  | false =>
    cases hg : (V.mk k i f s l).great 8 with
    | true =>
      have HF := Lib.hid (show r = 22 by rw [HR.out]; unfold V.check; rw [ho, hg]; rfl)
      have HO := Lib.hid ho
      have HG := Lib.hid hg
      clear ho hg
      go_enter Try.func61, Try.ntmps61
      go_wp2_with fail
      refine (kinds_c (.mk k i f s l) _ _ _ (HV.out.below (HBB.out _))).mono ?_
      rintro e w1 ⟨rfl, hb1⟩
      rw [HO.out]
      obtain ⟨c0, c1, c2, c3, c4⟩ := HAT.out w1 hb1
      have HB1 := Lib.hid ((HBB.out _).trans (hb1.mono (by simp)))
      clear hb1
      go_wp2_with fail
      refine (great1_c (.mk k i f s l) 0 _ _ _ (by omega) (by omega) (HV.out.below HB1.out)).mono ?_
      rintro e w2 ⟨rfl, hb2⟩
      rw [show (V.mk k i f s l).great (8 - (0 : Int)).toNat = true from HG.out]
      have HB2 := Lib.hid (HB1.out.trans (hb2.mono HB1.out.size))
      clear hb2
      go_wp2_with fail
      go_ret
      exact ⟨ret_int HF.out.symm, HB2.out⟩
    | false =>
      cases hs : decide ((4096 : Int) < wrap64 (V.mk k i f s l).size)
      all_goals
        have HF := Lib.hid (show r = if decide ((4096 : Int) < wrap64 (V.mk k i f s l).size) then 22 else 0 by rw [HR.out]; unfold V.check; rw [ho, hg]; simp)
        rw [hs] at HF
        have HO := Lib.hid ho
        have HG := Lib.hid hg
        clear ho hg
        go_enter Try.func61, Try.ntmps61
        go_wp2_with fail
        refine (kinds_c (.mk k i f s l) _ _ _ (HV.out.below (HBB.out _))).mono ?_
        rintro e w1 ⟨rfl, hb1⟩
        rw [HO.out]
        have h5 := HAT.out w1 hb1
        obtain ⟨c0, c1, c2, c3, c4⟩ := id h5
        have H5 := Lib.hid h5
        have HB1 := Lib.hid ((HBB.out _).trans (hb1.mono (by simp)))
        clear hb1 h5
        go_wp2_with fail
        refine (great1_c (.mk k i f s l) 0 _ _ _ (by omega) (by omega) (HV.out.below HB1.out)).mono ?_
        rintro e w2 ⟨rfl, hb2⟩
        rw [show (V.mk k i f s l).great (8 - (0 : Int)).toNat = false from HG.out]
        clear c0 c1 c2 c3 c4
        obtain ⟨c0, c1, c2, c3, c4⟩ := H5.out.keep hb2
        have HB2 := Lib.hid (HB1.out.trans (hb2.mono HB1.out.size))
        clear hb2
        go_wp2_with fail
        refine (size_c (.mk k i f s l) _ _ _ (HV.out.below HB2.out)).mono ?_
        rintro e w3 ⟨rfl, hb3⟩
        generalize wrap64 (V.mk k i f s l).size = z at *
        have HB3 := Lib.hid (HB2.out.trans (hb3.mono HB2.out.size))
        clear hb3
        go_wp2_with fail
        go_ret
        exact ⟨ret_int (by rw [HF.out]; rfl), HB3.out⟩
end Go.Proofs.Ytkhgbbloeeaceaa
