/- choirref3.Read. -/
import Derived.Test.YtkhgbbloeeaceaaDc
namespace Go.Proofs.Ytkhgbbloeeaceaa
open Go Go.RowKit
set_option maxRecDepth 16000
attribute [local go_sem ↓] run_store_float

/-- A value, how many bytes, an error's number, come back. -/
def RetR (w : World) (r : V × Int × Int) (e : Ending) (w' : World) : Prop := ∃ (sa : Option Addr) (sc : Nat),
  e = .returned (.tuple #[.agg #[.int .i64 r.1.k, .int .i64 r.1.i, .float .f64 r.1.f, .string r.1.s, .slice sa r.1.l.length sc], .int .i64 r.2.1, .int .i64 r.2.2]) ∧
  VIn (fun b => w.heap.size ≤ b) w' r.1 (.slice sa r.1.l.length sc) ∧ Below w.heap.size w w'
theorem RetR.mk {w w' : World} {r : V × Int × Int} {k i : Int} {f : Nat} {s : ByteArray} {l : List V} {len : Nat} {n m : Int} (sa : Option Addr) (sc : Nat) (hr : r = (V.mk k i f s l, n, m)) (hlen : len = l.length)
    (hv : VIn (fun b => w.heap.size ≤ b) w' (V.mk k i f s l) (.slice sa len sc)) (hb : Below w.heap.size w w') :
    RetR w r (.returned (.tuple #[.agg #[.int .i64 k, .int .i64 i, .float .f64 f, .string s, .slice sa len sc], .int .i64 n, .int .i64 m])) w' := by
  subst hr; subst hlen
  exact ⟨sa, sc, rfl, hv, hb⟩

theorem Read1_c (a : Option Addr) (c : Nat) (zs : List Int) (w : World) (hl : zs.length ≤ c ∧ c ≤ 9223372036854775807) (hc : a = none → c = 0) (hz : BIn w a zs) :
    Calls Try.prog 41 #[.slice a zs.length c] w (RetR w (vread (rd false 9 zs))) := by
  have HZ := Lib.hid hz
  generalize hr : vread (rd false 9 zs) = r
  have HR := Lib.hid hr.symm
  have HBB := Lib.hid ((Below.refl w.heap.size w).alloc (Nat.le_refl _) (.cells #[.int .i64 0, .int .i64 0, .float .f64 0, .string ⟨#[]⟩, .slice none 0 0] 43))
  clear hz hr
  have HC := Lib.hid (read1_c 9 (by omega) 0 a c zs _ (by omega) hl hc (HZ.out.below HBB.out))
  have hbl : (w.alloc (.cells #[.int .i64 0, .int .i64 0, .float .f64 0, .string ⟨#[]⟩, .slice none 0 0] 43)).heap[w.heap.size]? = some (.cells #[.int .i64 0, .int .i64 0, .float .f64 0, .string ⟨#[]⟩, .slice none 0 0] 43) := block_alloc_at _ rfl
  have HBL := Lib.hid hbl
  clear hbl
  cases hx : rd false 9 zs with
  | none =>
    have HF := Lib.hid (show r = (V.mk 0 0 0 ⟨#[]⟩ [], 0, 20) by rw [HR.out, hx]; rfl)
    have HX := Lib.hid hx
    clear hx
    go_enter Try.func41, Try.ntmps41
    go_wp2_with fail
    refine HC.out.mono ?_
    rintro e w1 ⟨t, sa, sc, q, rfl, _, hb1⟩
    rw [HX.out]
    obtain ⟨⟨r0, r1, r2, r3, r4⟩, hfr⟩ := cells_of_block5 (block_below hb1 HBL.out)
    have hz1 : w.heap.size < w1.heap.size := World.block_lt_of_cell? _ _ r0
    have HB1 := Lib.hid (HBB.out.trans (hb1.mono (by simp)))
    clear hb1
    go_wp2_with fail
    refine bodyPost_ret (v := .tuple #[.agg #[.int .i64 0, .int .i64 0, .float .f64 0, .string ⟨#[]⟩, .slice none 0 0], .int .i64 0, .int .i64 20]) (by simp [results, Try.results41, go_sem, r0, r1, r2, r3, r4, World.cell?_alloc_past, hz1]) rfl (RetR.mk none 0 HF.out rfl VIn.nil ?_)
    have hbb := below5 HB1.out (Nat.le_refl _) (.int .i64 0) (.int .i64 0) (.float .f64 0) (.string ⟨#[]⟩) (.slice none 0 0)
    exact hbb.alloc hbb.size _
  | some p =>
    obtain ⟨v, n⟩ := p
    have HX := Lib.hid hx
    clear hx
    obtain ⟨k, i, f, s, l⟩ := v
    by_cases hch : (V.mk k i f s l).check = 0
    · have HF := Lib.hid (show r = (V.mk k i f s l, (n : Int), 0) by rw [HR.out, HX.out]; unfold vread; simp only; rw [if_pos hch])
      have HCH := Lib.hid hch
      clear hch
      go_enter Try.func41, Try.ntmps41
      go_wp2_with fail
      refine HC.out.mono ?_
      rintro e w1 ⟨t, sa, sc, q, rfl, hyes, hb1⟩
      obtain ⟨rfl, rfl, hv⟩ := hyes _ _ HX.out
      rw [HX.out]
      simp only [V.k_mk, V.i_mk, V.f_mk, V.s_mk, V.l_mk] at hv ⊢
      have HV := Lib.hid hv
      obtain ⟨⟨r0, r1, r2, r3, r4⟩, hfr⟩ := cells_of_block5 (block_below hb1 HBL.out)
      have HBL1 := Lib.hid (block_below hb1 HBL.out)
      have hz1 : w.heap.size < w1.heap.size := World.block_lt_of_cell? _ _ r0
      have HB1 := Lib.hid (HBB.out.trans (hb1.mono (by simp)))
      have HAL := Lib.hid (fun o => ((Below.refl w1.heap.size w1).alloc (Nat.le_refl _) o : Below w1.heap.size w1 (w1.alloc o)))
      clear hb1 hv hyes
      go_wp2_with fail
      refine (check1_c (.mk k i f s l) _ _ _ (HV.out.below (HAL.out _))).mono ?_
      rintro e w2 ⟨rfl, hb2⟩
      rw [HCH.out]
      obtain ⟨⟨s0, s1, s2, s3, s4⟩, hfs⟩ := cells_of_block5 (block_below hb2 (block_alloc_old _ HBL1.out))
      obtain ⟨c0, c1, c2, c3, c4⟩ := at5.new.keep hb2
      have HB2 := Lib.hid (HB1.out.trans (((HAL.out _).trans (hb2.mono (by simp))).mono HB1.out.size))
      have HV2 := Lib.hid ((HV.out.below (HAL.out _)).below hb2)
      have hz2 : w1.heap.size < w2.heap.size := World.block_lt_of_cell? _ _ c0
      clear hb2 r0 r1 r2 r3 r4 hfr
      go_wp2_with fail
      refine bodyPost_ret (v := .tuple #[.agg #[.int .i64 k, .int .i64 i, .float .f64 f, .string s, .slice sa l.length sc], .int .i64 n, .int .i64 0]) (by simp [results, Try.results41, go_sem, s0, s1, s2, s3, s4]) rfl (RetR.mk sa sc HF.out rfl ?_ (below5 HB2.out (Nat.le_refl _) _ _ _ _ _))
      exact HV2.out.keep (fun b hD _ => heap5 _ _ _ _ _ _ (fun e => by subst e; have h9 : w.heap.size + 1 ≤ w.heap.size := (by simpa using hD); omega)) (fun b hD _ => Nat.le_trans (by simp) hD)
    · have HF := Lib.hid (show r = (V.mk 0 0 0 ⟨#[]⟩ [], 0, 20) by rw [HR.out, HX.out]; unfold vread; simp only; rw [if_neg hch]; rfl)
      have hcb : ((V.mk k i f s l).check != 0) = true := by simpa using hch
      generalize hch2 : (V.mk k i f s l).check = ch at hcb
      have HCH := Lib.hid hch2
      clear hch hch2
      go_enter Try.func41, Try.ntmps41
      go_wp2_with fail
      refine HC.out.mono ?_
      rintro e w1 ⟨t, sa, sc, q, rfl, hyes, hb1⟩
      obtain ⟨rfl, rfl, hv⟩ := hyes _ _ HX.out
      rw [HX.out]
      simp only [V.k_mk, V.i_mk, V.f_mk, V.s_mk, V.l_mk] at hv ⊢
      have HV := Lib.hid hv
      obtain ⟨⟨r0, r1, r2, r3, r4⟩, hfr⟩ := cells_of_block5 (block_below hb1 HBL.out)
      have HBL1 := Lib.hid (block_below hb1 HBL.out)
      have hz1 : w.heap.size < w1.heap.size := World.block_lt_of_cell? _ _ r0
      have HB1 := Lib.hid (HBB.out.trans (hb1.mono (by simp)))
      have HAL := Lib.hid (fun o => ((Below.refl w1.heap.size w1).alloc (Nat.le_refl _) o : Below w1.heap.size w1 (w1.alloc o)))
      clear hb1 hv hyes
      go_wp2_with fail
      refine (check1_c (.mk k i f s l) _ _ _ (HV.out.below (HAL.out _))).mono ?_
      rintro e w2 ⟨rfl, hb2⟩
      rw [HCH.out]
      obtain ⟨⟨s0, s1, s2, s3, s4⟩, hfs⟩ := cells_of_block5 (block_below hb2 (block_alloc_old _ HBL1.out))
      have HB2 := Lib.hid (HB1.out.trans (((HAL.out _).trans (hb2.mono (by simp))).mono HB1.out.size))
      clear hb2 r0 r1 r2 r3 r4 hfr
      go_wp2_with fail
      exact bodyPost_ret (v := .tuple #[.agg #[.int .i64 0, .int .i64 0, .float .f64 0, .string ⟨#[]⟩, .slice none 0 0], .int .i64 0, .int .i64 20]) (by simp [results, Try.results41, go_sem, s0, s1, s2, s3, s4]) rfl (RetR.mk none 0 HF.out rfl VIn.nil (below5 HB2.out (Nat.le_refl _) _ _ _ _ _))
end Go.Proofs.Ytkhgbbloeeaceaa
