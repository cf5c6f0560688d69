/- The closure that reads a call. -/
import Derived.Test.YtkhgbbloeeaceaaFb
namespace Go.Proofs.Ytkhgbbloeeaceaa
open Go Go.RowKit
set_option maxRecDepth 16000
attribute [local go_sem ↓] run_store_float

/-- The reading is done, or it is the end. -/
def RetC (w : World) (ob rb : Nat) (a : Option Addr) (N c : Nat) (r : Option (O × Nat)) (e : Ending) (w' : World) : Prop := But2 ob rb w w' ∧ match r with
  | none => e = .panicked [shortC]
  | some (o, n) => ∃ (sa : Option Addr) (sc : Nat), e = .returned (.tuple #[]) ∧ ok6 w' ob o.c o.s o.n o.g o.m (.slice sa o.l.length sc) ∧ VIn (fun b => w.heap.size ≤ b) w' (VL o.l) (.slice sa o.l.length sc) ∧ ck w' rb a N c n
theorem RetC.no {w : World} {ob rb : Nat} {a : Option Addr} {N c : Nat} {r w'} (hr : r = none) (hb : But2 ob rb w w') : RetC w ob rb a N c r (.panicked [shortC]) w' := by
  subst hr; exact ⟨hb, rfl⟩
theorem VIn.toVL {D w l sl} (h : VIn D w (V.lst l) sl) : VIn D w (VL l) sl := by
  obtain ⟨_, h2, h3, h4, h5, h6⟩ := h.parts
  exact VIn.of ⟨by decide, h2, h3, h4, h5, h6⟩
structure LO (w wr : World) (pb ob rb : Nat) (a : Option Addr) (N c : Nat) (at_ : Int) (k s n : Nat) (g m : ByteArray) (oa : Option Addr) (oc : Nat) (ps : List (V × Value)) : Prop where
  own : OwnV 43 w.heap.size wr (.slice oa ps.length oc) ps
  ok : ok6 wr ob k s n g m (.slice oa ps.length oc)
  rk : ck wr rb a N c at_
  pc : wr.cell? ⟨pb, 0, none⟩ = some (.pointer (some ⟨rb, 0, none⟩))
  but : But2 ob rb w wr

set_option maxHeartbeats 4000000 in
theorem readC_c (pb ob rb : Nat) (a : Option Addr) (c : Nat) (zs : List Int) (w : World) (hl : zs.length ≤ 140737488355328 ∧ zs.length ≤ c ∧ c ≤ 9223372036854775807) (hc : a = none → c = 0) (hz : BIn w a zs)
    (hp : w.cell? ⟨pb, 0, none⟩ = some (.pointer (some ⟨rb, 0, none⟩))) (ho : ok6 w ob 0 0 0 ⟨#[]⟩ ⟨#[]⟩ (.slice none 0 0)) (hr : ck w rb a zs.length c (0 : Nat)) (hpo : pb ≠ ob) (hpr : pb ≠ rb) (hor : ob ≠ rb) :
    Calls Try.prog 33 #[.pointer (some ⟨pb, 0, none⟩), .pointer (some ⟨ob, 0, none⟩)] w (RetC w ob rb a zs.length c (ord zs)) := by
  have HN1 := Lib.hid (hz.ne6 ho)
  have HN2 := Lib.hid (hz.ne2 hr)
  have HZ := Lib.hid hz
  have HBY := Lib.hid hz.byt
  have HP0 := Lib.hid hp
  have HO0 := Lib.hid ho
  have HR0 := Lib.hid hr
  generalize hres : ord zs = res
  have HRES := Lib.hid hres.symm
  have hor' : rb ≠ ob := Ne.symm hor
  clear hz ho hr hres
  go_enter Try.func33, Try.ntmps33
  go_wp2_with fail
  by_cases h10 : zs.length < 10
  · have HF := Lib.hid (show res = none by rw [HRES.out]; exact ord_short h10)
    refine (cid_no rb a c zs 0 _ hl (by omega) hc HR0.out HZ.out (by omega)).mono ?_
    rintro e w' ⟨rfl, hb⟩
    exact ⟨rfl, RetC.no HF.out (But2.of_but hb)⟩
  refine (cid_ok rb a c zs 0 _ hl (by omega) hc HR0.out HZ.out (by omega)).mono ?_
  rintro e w1 ⟨rfl, hk1, hb1⟩
  rw [List.drop_zero]
  have hi1 := idc_lt HBY.out
  have hi2 := ids_lt HBY.out
  have hi3 := idn_lt HBY.out
  generalize hq1 : idc zs = ic at *
  generalize hq2 : ids zs = is_ at *
  generalize hq3 : idn zs = in_ at *
  have HQI := Lib.hid (And.intro hq1 (And.intro hq2 hq3))
  have HK1 := Lib.hid hk1
  have HO1 := Lib.hid (show ok6 w1 ob 0 0 0 ⟨#[]⟩ ⟨#[]⟩ (.slice none 0 0) from hb1.obj hor HO0.out)
  have HB1 := Lib.hid (But2.of_but (ob := ob) hb1)
  have p1 : w1.cell? ⟨pb, 0, none⟩ = some (.pointer (some ⟨rb, 0, none⟩)) := HB1.out.cell hpo hpr HP0.out
  obtain ⟨⟨⟨o0, o1, o2⟩, o3, o4, o5⟩, hfo, hlo⟩ := HO1.out.cells
  have f0 := hfo 0
  have f1 := hfo 1
  have f2 := hfo 2
  have hpl := World.block_lt_of_cell? _ _ p1
  clear hk1 hb1 hfo hq1 hq2 hq3 hp
  go_wp2_with fail
  have HO2 := Lib.hid (show ok6 (((w1.setCell ⟨ob, 0, none⟩ (.int .u32 ic)).setCell ⟨ob, 1, none⟩ (.int .u32 is_)).setCell ⟨ob, 2, none⟩ (.int .u16 in_)) ob ic is_ in_ ⟨#[]⟩ ⟨#[]⟩ (.slice none 0 0) from block_setCell_self (block_setCell_self (block_setCell_self HO1.out)))
  have HK2 := Lib.hid (show ck (((w1.setCell ⟨ob, 0, none⟩ (.int .u32 ic)).setCell ⟨ob, 1, none⟩ (.int .u32 is_)).setCell ⟨ob, 2, none⟩ (.int .u16 in_)) rb a zs.length c ((0 + 10 : Nat) : Int) from block_setCell hor' (block_setCell hor' (block_setCell hor' HK1.out)))
  have HB2 := Lib.hid (show But2 ob rb w (((w1.setCell ⟨ob, 0, none⟩ (.int .u32 ic)).setCell ⟨ob, 1, none⟩ (.int .u32 is_)).setCell ⟨ob, 2, none⟩ (.int .u16 in_)) from ((HB1.out.set _ _).set _ _).set _ _)
  generalize (((w1.setCell ⟨ob, 0, none⟩ (.int .u32 ic)).setCell ⟨ob, 1, none⟩ (.int .u32 is_)).setCell ⟨ob, 2, none⟩ (.int .u16 in_)) = w2 at *
  have HP2 := Lib.hid (HB2.out.cell hpo hpr HP0.out)
  have HZ2 := Lib.hid (HZ.out.turned HN1.out HN2.out HB2.out)
  clear o0 o1 o2 o3 o4 o5 hlo hpl f0 f1 f2 p1
  rw [Nat.zero_add] at HK2
  by_cases hn3 : (rtext (zs.drop 10) 32).2.2 = 0
  case neg =>
    have HF := Lib.hid (show res = none by rw [HRES.out]; exact ord_name1 h10 hn3)
    refine (cname_no rb a c zs 10 _ hl (by omega) hc HK2.out HZ2.out hn3).mono ?_
    rintro e w' ⟨rfl, hb⟩
    exact ⟨rfl, RetC.no HF.out (HB2.out.trans (But2.of_but hb))⟩
  obtain ⟨g, u, hg, hgu⟩ := rtext_parts hn3
  rw [List.length_drop] at hgu
  refine (cname_ok rb a c zs 10 _ hl (by omega) hc HK2.out HZ2.out hn3).mono ?_
  rintro e w3 ⟨rfl, hk3, hb3⟩
  rw [hg] at hk3 ⊢
  dsimp only at hk3 ⊢
  have HT3 := Lib.hid hg
  have HK3 := Lib.hid (show ck w3 rb a zs.length c ((12 + u : Nat) : Int) by rw [show ((12 + u : Nat) : Int) = ((10 : Nat) : Int) + (2 + (u : Int)) by omega]; exact hk3)
  have HO3 := Lib.hid (show ok6 w3 ob ic is_ in_ ⟨#[]⟩ ⟨#[]⟩ (.slice none 0 0) from hb3.obj hor HO2.out)
  have HB3 := Lib.hid (HB2.out.trans (But2.of_but hb3))
  have p3 : w3.cell? ⟨pb, 0, none⟩ = some (.pointer (some ⟨rb, 0, none⟩)) := HB3.out.cell hpo hpr HP0.out
  obtain ⟨⟨⟨o0, o1, o2⟩, o3, o4, o5⟩, hfo, hlo⟩ := HO3.out.cells
  have f3 := hfo 3
  have hpl := World.block_lt_of_cell? _ _ p3
  clear hk3 hb3 hfo hg hn3
  go_wp2_with fail
  have HO4 := Lib.hid (show ok6 (w3.setCell ⟨ob, 3, none⟩ (.string g)) ob ic is_ in_ g ⟨#[]⟩ (.slice none 0 0) from block_setCell_self HO3.out)
  have HK4 := Lib.hid (show ck (w3.setCell ⟨ob, 3, none⟩ (.string g)) rb a zs.length c ((12 + u : Nat) : Int) from block_setCell hor' HK3.out)
  have HB4 := Lib.hid (show But2 ob rb w (w3.setCell ⟨ob, 3, none⟩ (.string g)) from HB3.out.set _ _)
  generalize (w3.setCell ⟨ob, 3, none⟩ (.string g)) = w4 at *
  have HP4 := Lib.hid (HB4.out.cell hpo hpr HP0.out)
  have HZ4 := Lib.hid (HZ.out.turned HN1.out HN2.out HB4.out)
  clear o0 o1 o2 o3 o4 o5 hlo hpl f3 p3
  by_cases hn4 : (rtext (zs.drop (12 + u)) 32).2.2 = 0
  case neg =>
    have HF := Lib.hid (show res = none by rw [HRES.out]; exact ord_name2 h10 HT3.out hn4)
    refine (cname_no rb a c zs (12 + u) _ hl (by omega) hc HK4.out HZ4.out hn4).mono ?_
    rintro e w' ⟨rfl, hb⟩
    exact ⟨rfl, RetC.no HF.out (HB4.out.trans (But2.of_but hb))⟩
  obtain ⟨m, v, hm, hmu⟩ := rtext_parts hn4
  rw [List.length_drop] at hmu
  refine (cname_ok rb a c zs (12 + u) _ hl (by omega) hc HK4.out HZ4.out hn4).mono ?_
  rintro e w5 ⟨rfl, hk5, hb5⟩
  rw [hm] at hk5 ⊢
  dsimp only at hk5 ⊢
  have HT4 := Lib.hid hm
  have HK5 := Lib.hid (show ck w5 rb a zs.length c ((14 + u + v : Nat) : Int) by rw [show ((14 + u + v : Nat) : Int) = (((12 + u) : Nat) : Int) + (2 + (v : Int)) by omega]; exact hk5)
  have HO5 := Lib.hid (show ok6 w5 ob ic is_ in_ g ⟨#[]⟩ (.slice none 0 0) from hb5.obj hor HO4.out)
  have HB5 := Lib.hid (HB4.out.trans (But2.of_but hb5))
  have p5 : w5.cell? ⟨pb, 0, none⟩ = some (.pointer (some ⟨rb, 0, none⟩)) := HB5.out.cell hpo hpr HP0.out
  obtain ⟨⟨⟨o0, o1, o2⟩, o3, o4, o5⟩, hfo, hlo⟩ := HO5.out.cells
  have f4 := hfo 4
  have hpl := World.block_lt_of_cell? _ _ p5
  clear hk5 hb5 hfo hm hn4
  go_wp2_with fail
  have HO6 := Lib.hid (show ok6 (w5.setCell ⟨ob, 4, none⟩ (.string m)) ob ic is_ in_ g m (.slice none 0 0) from block_setCell_self HO5.out)
  have HK6 := Lib.hid (show ck (w5.setCell ⟨ob, 4, none⟩ (.string m)) rb a zs.length c ((14 + u + v : Nat) : Int) from block_setCell hor' HK5.out)
  have HB6 := Lib.hid (show But2 ob rb w (w5.setCell ⟨ob, 4, none⟩ (.string m)) from HB5.out.set _ _)
  generalize (w5.setCell ⟨ob, 4, none⟩ (.string m)) = w6 at *
  have HP6 := Lib.hid (HB6.out.cell hpo hpr HP0.out)
  have HZ6 := Lib.hid (HZ.out.turned HN1.out HN2.out HB6.out)
  clear o0 o1 o2 o3 o4 o5 hlo hpl f4 p5
  have HARG := Lib.hid (show res = oargs ic is_ in_ g m (14 + u + v) (zs.drop (14 + u + v)) by rw [HRES.out, ord_args h10 HT3.out HT4.out, HQI.out.1, HQI.out.2.1, HQI.out.2.2])
  cases hd : zs.drop (14 + u + v) with
  | nil =>
    have hdl := congrArg List.length hd
    rw [List.length_drop, List.length_nil] at hdl
    have HF := Lib.hid (show res = none by rw [HARG.out, hd]; rfl)
    refine (cnumber_no rb a c zs (14 + u + v) 1 _ (by omega) hl (by omega) hc HK6.out HZ6.out (by omega)).mono ?_
    rintro e w' ⟨rfl, hb⟩
    exact ⟨rfl, RetC.no HF.out (HB6.out.trans (But2.of_but hb))⟩
  | cons z r =>
    have hdl := congrArg List.length hd
    rw [List.length_drop, List.length_cons] at hdl
    have hz01 : 0 ≤ z ∧ z ≤ 255 := HBY.out z (List.mem_of_mem_drop (by rw [hd]; simp : z ∈ zs.drop (14 + u + v)))
    obtain ⟨zN, rfl⟩ : ∃ zN : Nat, z = zN := ⟨z.toNat, by omega⟩
    have HBN := Lib.hid (show beN ((zs.drop (14 + u + v)).take 1) = zN by rw [hd]; simp [beN])
    have HDR := Lib.hid (show zs.drop (15 + u + v) = r by rw [show 15 + u + v = (14 + u + v) + 1 by omega, ← List.drop_drop, hd]; rfl)
    have HAR := Lib.hid (show res = oargs ic is_ in_ g m (14 + u + v) ((zN : Int) :: r) by rw [HARG.out, hd])
    refine (cnumber_ok rb a c zs (14 + u + v) 1 _ (by omega) hl (by omega) hc HK6.out HZ6.out (by omega)).mono ?_
    rintro e w7 ⟨rfl, hk7, hb7⟩
    rw [HBN.out]
    have HK7 := Lib.hid (show ck w7 rb a zs.length c ((15 + u + v : Nat) : Int) by rw [show 15 + u + v = 14 + u + v + 1 by omega]; exact hk7)
    have HO7 := Lib.hid (show ok6 w7 ob ic is_ in_ g m (.slice none 0 0) from hb7.obj hor HO6.out)
    have HB7 := Lib.hid (HB6.out.trans (But2.of_but hb7))
    have p7 : w7.cell? ⟨pb, 0, none⟩ = some (.pointer (some ⟨rb, 0, none⟩)) := HB7.out.cell hpo hpr HP0.out
    generalize hl2 : 15 + u + v = l2 at HK7 HDR
    have hrl2 : r.length + l2 = zs.length := by omega
    have HL2 := Lib.hid hl2
    clear hk7 hb7 hd hdl hl2
    by_cases h16 : 16 < zN
    · have HF := Lib.hid (show res = none by rw [HAR.out]; exact oargs_many (by omega))
      go_wp2_with fail
      rw [show decide ((zN : Int) ≤ 16) = false from decide_eq_false (by omega)]
      refine (cmust_no _).mono ?_
      rintro e w' ⟨rfl, rfl⟩
      exact ⟨rfl, RetC.no HF.out HB7.out⟩
    · go_wp2_with fail
      rw [show decide ((zN : Int) ≤ 16) = true from decide_eq_true (by omega)]
      refine (cmust_ok _).mono ?_
      rintro e w' ⟨rfl, rfl⟩
      go_wp2_with fail
      have hpw : pb < w.heap.size := World.block_lt_of_cell? _ _ HP0.out
      have how : ob < w.heap.size := HO0.out.cells.2.2
      have hrw : rb < w.heap.size := HR0.out.cells.2.2
      go_loopw [18] (fun j wr => ∃ (i k : Nat) (ps : List (V × Value)) (oa : Option Addr) (oc : Nat), i ≤ zN ∧ j = .int .u64 i ∧ rdItems vrd i r = some (ps.map Prod.fst, k) ∧ LO w wr pb ob rb a zs.length c ((l2 + k : Nat) : Int) ic is_ in_ g m oa oc ps) (fun j _ => zN - (intOf j).toNat)
      case atStart => exact ⟨0, 0, [], none, 0, by omega, rfl, rfl, OwnV.nil _ _ _, HO7.out, HK7.out, p7, HB7.out⟩
      case round =>
        obtain ⟨i, k, ps, oa, oc, hi, rfl, hrd, hst⟩ := hrel
        have hkr : k ≤ r.length := rdItems_le _ vrd_le hrd
        have hpl := rdItems_length _ hrd
        rw [List.length_map] at hpl
        subst hpl
        have HRI := Lib.hid hrd
        have HS := Lib.hid hst
        have HZr := Lib.hid (HZ.out.turned HN1.out HN2.out hst.but)
        have HD2 := Lib.hid (show zs.drop (l2 + k) = r.drop k by rw [← List.drop_drop, HDR.out])
        obtain ⟨⟨⟨o0, o1, o2⟩, o3, o4, o5⟩, hfo, hlo⟩ := hst.ok.cells
        have f5 := hfo 5
        have pr := hst.pc
        clear hrd hst hfo p7
        by_cases hlt : ps.length < zN
        · have hzr : w.heap.size ≤ wr.heap.size := HS.out.but.size
          have hgl : l2 + k ≤ zs.length := by omega
          have HCV := Lib.hid (fun (X : World) (g1 : ck X rb a zs.length c ((l2 + k : Nat) : Int)) (g2 : BIn X a zs) => cvalue_c rb a c zs (l2 + k) X hl hgl hc g1 g2)
          cases hx : vrd (r.drop k) with
          | none =>
            have HX := Lib.hid hx
            have HF := Lib.hid (show res = none by
              rw [HAR.out]
              exact oargs_no (by rw [show zN = (ps.length + 1) + (zN - (ps.length + 1)) by omega, rdItems_none _ (by rw [rdItems_snoc, HRI.out]; simp only; rw [HX.out])]))
            clear hx
            go_wp2_with fail
            refine wp_region_M (fun w' => w'.cell? ⟨ob, 5, none⟩ = some (.slice oa ps.length oc) ∧ w'.cell? ⟨pb, 0, none⟩ = some (.pointer (some ⟨rb, 0, none⟩))) [7, 8, 9, 10] (by kernel_rfl) ⟨o5, pr⟩ (fun hT => ?_)
            refine M_take 0 hT rfl (by kernel_rfl) (by kernel_rfl) (by kernel_rfl) (by kernel_rfl) (fun _ _ _ h => h) (by rfl) (by (intro w' hw'; (try dsimp only at hw'); go_simp; try with_reducible rfl)) ?_
            try simp only [Act.put, List.setIfInBounds_toArray, List.set_cons_zero, List.set_cons_succ]
            refine M_take 1 hT rfl (by kernel_rfl) (by kernel_rfl) (by kernel_rfl) (by kernel_rfl) (fun _ _ _ h => h) (by rfl) (by (intro w' hw'; (try dsimp only at hw'); go_simp; try with_reducible rfl)) ?_
            try simp only [Act.put, List.setIfInBounds_toArray, List.set_cons_zero, List.set_cons_succ]
            refine M_take 2 hT rfl (by kernel_rfl) (by kernel_rfl) (by kernel_rfl) (by kernel_rfl) (fun _ _ _ h => h) (by rfl) (by (intro w' hw'; (try dsimp only at hw'); go_simp; try with_reducible rfl)) ?_
            try simp only [Act.put, List.setIfInBounds_toArray, List.set_cons_zero, List.set_cons_succ]
            refine M_take 4 hT rfl (by kernel_rfl) (by kernel_rfl) (by kernel_rfl) (by kernel_rfl) (fun _ _ _ h => h) (by rfl) (by (intro w' hw'; (try dsimp only at hw'); go_simp; try with_reducible rfl)) ?_
            try simp only [Act.put, List.setIfInBounds_toArray, List.set_cons_zero, List.set_cons_succ]
            refine M_two 3 5 rfl rfl (by kernel_rfl) ?_ ?_
            · intro K hK
              rw [if_pos (by rfl)]
              go_simp
              refine (HCV.out _ (show ck wr.drew rb a zs.length c _ from HS.out.rk) (show BIn wr.drew a zs from HZr.out.below (Below.refl _ _).drew)).mono ?_
              rintro e w4 ⟨hb4, h4⟩
              rw [HD2.out, vread_vrd, HX.out] at h4
              simp only [show ¬ (20 : Int) = 0 by omega, if_false] at h4
              subst h4
              exact ⟨rfl, RetC.no HF.out ((HS.out.but.trans (But2.of_below (Below.refl _ _).drew)).trans (But2.of_but hb4))⟩
            · intro K hK
              rw [if_pos (by rfl)]
              go_simp
              have HA1 := Lib.hid (show Below wr.heap.size wr (wr.alloc (.cells #[.int .i64 0, .int .i64 0, .float .f64 0, .string ⟨#[]⟩, .slice none 0 0] 43)).drew from ((Below.refl wr.heap.size wr).alloc (Nat.le_refl _) (.cells #[.int .i64 0, .int .i64 0, .float .f64 0, .string ⟨#[]⟩, .slice none 0 0] 43)).drew)
              refine hK _ _ (.inr ⟨keepc HA1.out o5, keepc HA1.out pr⟩) ?_
              clear hK
              try simp only [Act.put, List.setIfInBounds_toArray, List.set_cons_zero, List.set_cons_succ]
              refine M_one 3 rfl (by kernel_rfl) (fun K hK => ?_)
              rw [if_pos (by rfl)]
              go_simp
              refine (HCV.out _ (HS.out.rk.below HA1.out) (HZr.out.below HA1.out)).mono ?_
              rintro e w4 ⟨hb4, h4⟩
              rw [HD2.out, vread_vrd, HX.out] at h4
              simp only [show ¬ (20 : Int) = 0 by omega, if_false] at h4
              subst h4
              exact ⟨rfl, RetC.no HF.out ((HS.out.but.trans (But2.of_below HA1.out)).trans (But2.of_but hb4))⟩
          | some p =>
            obtain ⟨⟨vk, vi, vf, vs, vl⟩, n⟩ := p
            have HX := Lib.hid hx
            have HRD2 := Lib.hid (show rdItems vrd (ps.length + 1) r = some (ps.map Prod.fst ++ [V.mk vk vi vf vs vl], k + n) by
              rw [rdItems_snoc, HRI.out]; simp only; rw [HX.out])
            clear hx
            go_wp2_with fail
            refine wp_region_M (fun w' => w'.cell? ⟨ob, 5, none⟩ = some (.slice oa ps.length oc) ∧ w'.cell? ⟨pb, 0, none⟩ = some (.pointer (some ⟨rb, 0, none⟩))) [7, 8, 9, 10] (by kernel_rfl) ⟨o5, pr⟩ (fun hT => ?_)
            refine M_take 0 hT rfl (by kernel_rfl) (by kernel_rfl) (by kernel_rfl) (by kernel_rfl) (fun _ _ _ h => h) (by rfl) (by (intro w' hw'; (try dsimp only at hw'); go_simp; try with_reducible rfl)) ?_
            try simp only [Act.put, List.setIfInBounds_toArray, List.set_cons_zero, List.set_cons_succ]
            refine M_take 1 hT rfl (by kernel_rfl) (by kernel_rfl) (by kernel_rfl) (by kernel_rfl) (fun _ _ _ h => h) (by rfl) (by (intro w' hw'; (try dsimp only at hw'); go_simp; try with_reducible rfl)) ?_
            try simp only [Act.put, List.setIfInBounds_toArray, List.set_cons_zero, List.set_cons_succ]
            refine M_take 2 hT rfl (by kernel_rfl) (by kernel_rfl) (by kernel_rfl) (by kernel_rfl) (fun _ _ _ h => h) (by rfl) (by (intro w' hw'; (try dsimp only at hw'); go_simp; try with_reducible rfl)) ?_
            try simp only [Act.put, List.setIfInBounds_toArray, List.set_cons_zero, List.set_cons_succ]
            refine M_take 4 hT rfl (by kernel_rfl) (by kernel_rfl) (by kernel_rfl) (by kernel_rfl) (fun _ _ _ h => h) (by rfl) (by (intro w' hw'; (try dsimp only at hw'); go_simp; try with_reducible rfl)) ?_
            try simp only [Act.put, List.setIfInBounds_toArray, List.set_cons_zero, List.set_cons_succ]
            refine M_two 3 5 rfl rfl (by kernel_rfl) ?_ ?_
            · intro K hK
              rw [if_pos (by rfl)]
              go_simp
              refine (HCV.out _ (show ck wr.drew rb a zs.length c _ from HS.out.rk) (show BIn wr.drew a zs from HZr.out.below (Below.refl _ _).drew)).mono ?_
              rintro e w4 ⟨hb4, h4⟩
              rw [HD2.out, vread_vrd, HX.out] at h4
              simp only [if_true, V.k_mk, V.i_mk, V.f_mk, V.s_mk, V.l_mk] at h4
              obtain ⟨sa, sc, rfl, hv4, hk4⟩ := h4
              have HK4 := Lib.hid (show ck w4 rb a zs.length c ((l2 + k + n : Nat) : Int) by rw [show ((l2 + k + n : Nat) : Int) = ((l2 + k : Nat) : Int) + (n : Int) by omega]; exact hk4)
              have HB4 := Lib.hid ((But2.of_below (ob := ob) (rb := rb) (Below.refl wr.heap.size wr).drew).trans (But2.of_but hb4))
              have HO4 := Lib.hid (HS.out.own.same (w' := w4) (fun q h1 h2 => hb4.block q h2 (fun e => by have := Option.some.inj e; omega)))
              have q5 : w4.cell? ⟨ob, 5, none⟩ = some (.slice oa ps.length oc) := by rw [hb4.cell_far ⟨ob, 5, none⟩ hlo (fun e => hor (Option.some.inj e))]; exact hT.1
              have qp : w4.cell? ⟨pb, 0, none⟩ = some (.pointer (some ⟨rb, 0, none⟩)) := by rw [hb4.cell_far ⟨pb, 0, none⟩ (World.block_lt_of_cell? wr _ hT.2) (fun e => hpr (Option.some.inj e))]; exact hT.2
              have HOK4 := Lib.hid (show ok6 w4 ob ic is_ in_ g m (.slice oa ps.length oc) from hb4.obj hor (show wr.drew.heap[ob]? = _ from HS.out.ok))
              have HV4 := Lib.hid (show VIn (fun b => wr.heap.size ≤ b) w4 (V.mk vk vi vf vs vl) (.slice sa vl.length sc) from hv4)
              refine hK _ _ (.inr ⟨q5, qp⟩) ?_
              clear hK hb4 hv4 hk4
              try simp only [Act.put, List.setIfInBounds_toArray, List.set_cons_zero, List.set_cons_succ]
              refine M_one 5 rfl (by kernel_rfl) (fun K hK => ?_)
              rw [if_pos (by rfl)]
              go_simp
              have HA5 := Lib.hid ((Below.refl w4.heap.size w4).alloc (Nat.le_refl _) (.cells #[.int .i64 0, .int .i64 0, .float .f64 0, .string ⟨#[]⟩, .slice none 0 0] 43))
              have HZB := Lib.hid (block_alloc_at (w := w4) (.cells #[.int .i64 0, .int .i64 0, .float .f64 0, .string ⟨#[]⟩, .slice none 0 0] 43) rfl)
              have HV5 := Lib.hid (HV4.out.below HA5.out)
              have HO5 := Lib.hid (HO4.out.below HA5.out)
              have HOK5 := Lib.hid (show ok6 _ ob ic is_ in_ g m (.slice oa ps.length oc) from block_below HA5.out HOK4.out)
              have HK5 := Lib.hid (HK4.out.below HA5.out)
              have HB5 := Lib.hid (HB4.out.trans (But2.of_below HA5.out))
              have HQP := Lib.hid (keepc HA5.out qp)
              refine hK _ _ (.inr ⟨keepc HA5.out q5, keepc HA5.out qp⟩) ?_
              clear hK q5 qp HOK4 HK4 HB4 HO4 HV4
              generalize w4.alloc _ = w5 at *
              generalize w4.heap.size = zb at *
              try simp only [Act.put, List.setIfInBounds_toArray, List.set_cons_zero, List.set_cons_succ]
              refine M_one 6 rfl (by kernel_rfl) (fun K hK => ?_)
              obtain ⟨i0, hi0, hz0, hz1', hz2⟩ := info_parts infoV
              refine step_append_lies w5 rfl _ _ 27 rfl w.heap.size 43 i0 _ 5 64 Try.underlying27 hi0 hz0 hz1' hz2 rfl (by omega) (.slice oa ps.length oc) ps.length (flat ps) rfl HO5.out.1 ⟨zb, 0, none⟩ 1 1 (flat [(V.nil, .slice none 0 0)]) rfl rfl (World.news_of_block HZB.out) one5 (by omega) (by unfold maxLen; omega) (by omega) (Nat.le_trans hzr HB5.out.size) _ rfl ?_
              intro gg cap w6 h1 h2 h3 h4
              have HOW := Lib.hid h1
              have HG6 := Lib.hid h2
              have HAT := Lib.hid h3
              have HBL6 := Lib.hid (show Below w.heap.size w5 w6 from (Below.refl w.heap.size w5).grown h2 (Nat.le_trans hzr HB5.out.size) (fun q hq => (HO5.out.1.lt q hq).1))
              have hgb : w.heap.size ≤ gg := (h1.lt gg rfl).1
              have HOK6 := Lib.hid (show ok6 w6 ob ic is_ in_ g m (.slice oa ps.length oc) from block_belowB HBL6.out how HOK5.out)
              have HK6 := Lib.hid (show ck w6 rb a zs.length c ((l2 + k + n : Nat) : Int) from block_belowB HBL6.out hrw HK5.out)
              have hc0 : w6.cell? ⟨gg, ps.length * 5, none⟩ = some (.int .i64 0) := by rw [h1.cellAt _ (by omega)]; simp [flat, flat_length, V.nil]
              have hc1 : w6.cell? ⟨gg, ps.length * 5 + 1, none⟩ = some (.int .i64 0) := by rw [h1.cellAt _ (by omega)]; simp [flat, flat_length, V.nil]
              have hc2 : w6.cell? ⟨gg, ps.length * 5 + 2, none⟩ = some (.float .f64 0) := by rw [h1.cellAt _ (by omega)]; simp [flat, flat_length, V.nil]
              have hc3 : w6.cell? ⟨gg, ps.length * 5 + 3, none⟩ = some (.string ⟨#[]⟩) := by rw [h1.cellAt _ (by omega)]; simp [flat, flat_length, V.nil]
              have hc4 : w6.cell? ⟨gg, ps.length * 5 + 4, none⟩ = some (.slice none 0 0) := by rw [h1.cellAt _ (by omega)]; simp [flat, flat_length, V.nil]
              have hfz := fun j => h1.frozenAt j
              have hf0 := hfz (ps.length * 5)
              have hf1 := hfz (ps.length * 5 + 1)
              have hf2 := hfz (ps.length * 5 + 2)
              have hf3 := hfz (ps.length * 5 + 3)
              have hf4 := hfz (ps.length * 5 + 4)
              obtain ⟨⟨⟨_, _, _⟩, _, _, q5⟩, hfo6, _⟩ := HOK6.out.cells
              have hf5 := hfo6 5
              have hgo : ¬ gg = ob := by omega
              have hog : ¬ ob = gg := by omega
              refine hK _ _ (.inr ⟨q5, keepcB HBL6.out hpw HQP.out⟩) ?_
              have hix : (ps.length : Int) < (ps.length : Int) + 1 := by omega
              clear hK h1 h2 h3 hfz hfo6 o0 o1 o2 o3 o4 o5 pr f5
              try simp only [Act.put, List.setIfInBounds_toArray, List.set_cons_zero, List.set_cons_succ]
              refine M_pure 7 rfl (by decide) (by kernel_rfl) (by kernel_rfl) (by kernel_rfl) (fun _ _ _ h => h) (by rfl) (by (intro w'; go_simp; try with_reducible rfl)) ?_
              try simp only [Act.put, List.setIfInBounds_toArray, List.set_cons_zero, List.set_cons_succ]
              refine M_pure 9 rfl (by decide) (by kernel_rfl) (by kernel_rfl) (by kernel_rfl) (fun _ _ _ h => h) (by rfl) (by (intro w'; go_simp; try with_reducible rfl)) ?_
              try simp only [Act.put, List.setIfInBounds_toArray, List.set_cons_zero, List.set_cons_succ]
              have HBW := Lib.hid (show But2 ob rb w w6 from ⟨HBL6.out.os.trans (HS.out.but.trans HB5.out).os, HBL6.out.tape.trans (HS.out.but.trans HB5.out).tape, HBL6.out.output.trans (HS.out.but.trans HB5.out).output, Nat.le_trans (HS.out.but.trans HB5.out).size HBL6.out.size, fun q hq h1 h2 => by rw [HBL6.out.block q hq]; exact (HS.out.but.trans HB5.out).block q hq h1 h2⟩)
              refine M_two 8 10 rfl rfl (by kernel_rfl) ?_ ?_
              · intro K hK
                rw [if_pos (by rfl)]
                go_simp
                refine hK _ _ (.inl (by decide)) ?_
                clear hK
                try simp only [Act.put, List.setIfInBounds_toArray, List.set_cons_zero, List.set_cons_succ]
                refine M_one 10 rfl (by kernel_rfl) (fun K hK => ?_)
                rw [if_pos (by rfl)]
                go_simp
                refine hK _ _ (.inl (by decide)) ?_
                clear hK
                try simp only [Act.put, List.setIfInBounds_toArray, List.set_cons_zero, List.set_cons_succ]
                refine M_done (by kernel_rfl) ?_ _
                have HOX := Lib.hid (show OwnV 43 w.heap.size ((((((w6.setCell ⟨gg, ps.length * 5, none⟩ (.int .i64 vk)).setCell ⟨gg, ps.length * 5 + 1, none⟩ (.int .i64 vi)).setCell ⟨gg, ps.length * 5 + 2, none⟩ (.float .f64 vf)).setCell ⟨gg, ps.length * 5 + 3, none⟩ (.string vs)).setCell ⟨gg, ps.length * 5 + 4, none⟩ (.slice sa vl.length sc)).setCell ⟨ob, 5, none⟩ (.slice (some ⟨gg, 0, none⟩) (ps.length + 1) cap)) (.slice (some ⟨gg, 0, none⟩) (ps.length + 1) cap) (ps ++ [(V.mk vk vi vf vs vl, (.slice sa vl.length sc))]) from (HO5.out.put (t := V.mk vk vi vf vs vl) rfl HV5.out hzr (fun q hq => (HS.out.own.1.lt q hq).2) rfl HOW.out (fun b hb0 hb hne => HG6.out.block b hb (fun e => hne e.symm)) (HAT.out.imp id (fun e => by omega))).setCell how _)
                have HOKX := Lib.hid (show ok6 ((((((w6.setCell ⟨gg, ps.length * 5, none⟩ (.int .i64 vk)).setCell ⟨gg, ps.length * 5 + 1, none⟩ (.int .i64 vi)).setCell ⟨gg, ps.length * 5 + 2, none⟩ (.float .f64 vf)).setCell ⟨gg, ps.length * 5 + 3, none⟩ (.string vs)).setCell ⟨gg, ps.length * 5 + 4, none⟩ (.slice sa vl.length sc)).setCell ⟨ob, 5, none⟩ (.slice (some ⟨gg, 0, none⟩) (ps.length + 1) cap)) ob ic is_ in_ g m (.slice (some ⟨gg, 0, none⟩) (ps.length + 1) cap) from block_setCell_self (i := 5) (block_setCell hog (block_setCell hog (block_setCell hog (block_setCell hog (block_setCell hog HOK6.out))))))
                have HKX := Lib.hid (show ck ((((((w6.setCell ⟨gg, ps.length * 5, none⟩ (.int .i64 vk)).setCell ⟨gg, ps.length * 5 + 1, none⟩ (.int .i64 vi)).setCell ⟨gg, ps.length * 5 + 2, none⟩ (.float .f64 vf)).setCell ⟨gg, ps.length * 5 + 3, none⟩ (.string vs)).setCell ⟨gg, ps.length * 5 + 4, none⟩ (.slice sa vl.length sc)).setCell ⟨ob, 5, none⟩ (.slice (some ⟨gg, 0, none⟩) (ps.length + 1) cap)) rb a zs.length c ((l2 + k + n : Nat) : Int) from block_setCell hor' (block_setCell (show rb ≠ gg by omega) (block_setCell (show rb ≠ gg by omega) (block_setCell (show rb ≠ gg by omega) (block_setCell (show rb ≠ gg by omega) (block_setCell (show rb ≠ gg by omega) HK6.out))))))
                have HBX := Lib.hid (show But2 ob rb w ((((((w6.setCell ⟨gg, ps.length * 5, none⟩ (.int .i64 vk)).setCell ⟨gg, ps.length * 5 + 1, none⟩ (.int .i64 vi)).setCell ⟨gg, ps.length * 5 + 2, none⟩ (.float .f64 vf)).setCell ⟨gg, ps.length * 5 + 3, none⟩ (.string vs)).setCell ⟨gg, ps.length * 5 + 4, none⟩ (.slice sa vl.length sc)).setCell ⟨ob, 5, none⟩ (.slice (some ⟨gg, 0, none⟩) (ps.length + 1) cap)) from ((((((HBW.out.set_new hgb _ _).set_new hgb _ _).set_new hgb _ _).set_new hgb _ _).set_new hgb _ _)).set _ _)
                clear hc0 hc1 hc2 hc3 hc4 hf0 hf1 hf2 hf3 hf4 hf5 q5 hix
                generalize (((((w6.setCell ⟨gg, ps.length * 5, none⟩ (.int .i64 vk)).setCell ⟨gg, ps.length * 5 + 1, none⟩ (.int .i64 vi)).setCell ⟨gg, ps.length * 5 + 2, none⟩ (.float .f64 vf)).setCell ⟨gg, ps.length * 5 + 3, none⟩ (.string vs)).setCell ⟨gg, ps.length * 5 + 4, none⟩ (.slice sa vl.length sc)).setCell ⟨ob, 5, none⟩ (.slice (some ⟨gg, 0, none⟩) (ps.length + 1) cap) = wX at *
                go_wp2_with fail
                go_roundw
                case rel =>
                  refine ⟨ps.length + 1, k + n, ps ++ [(V.mk vk vi vf vs vl, (.slice sa vl.length sc))], some ⟨gg, 0, none⟩, cap, by omega, by go_num, by rw [HRD2.out]; simp, ⟨?_, ?_, ?_, HBX.out.cell hpo hpr HP0.out, HBX.out⟩⟩
                  · rw [List.length_append]
                    exact HOX.out
                  · rw [List.length_append]
                    exact HOKX.out
                  · rw [← Nat.add_assoc]
                    exact HKX.out
                case measure => simp [intOf]; omega
              · intro K hK
                rw [if_pos (by rfl)]
                go_simp
                refine hK _ _ (.inl (by decide)) ?_
                clear hK
                try simp only [Act.put, List.setIfInBounds_toArray, List.set_cons_zero, List.set_cons_succ]
                refine M_one 8 rfl (by kernel_rfl) (fun K hK => ?_)
                rw [if_pos (by rfl)]
                go_simp
                refine hK _ _ (.inl (by decide)) ?_
                clear hK
                try simp only [Act.put, List.setIfInBounds_toArray, List.set_cons_zero, List.set_cons_succ]
                refine M_done (by kernel_rfl) ?_ _
                have HOX := Lib.hid (show OwnV 43 w.heap.size ((((((w6.setCell ⟨ob, 5, none⟩ (.slice (some ⟨gg, 0, none⟩) (ps.length + 1) cap)).setCell ⟨gg, ps.length * 5, none⟩ (.int .i64 vk)).setCell ⟨gg, ps.length * 5 + 1, none⟩ (.int .i64 vi)).setCell ⟨gg, ps.length * 5 + 2, none⟩ (.float .f64 vf)).setCell ⟨gg, ps.length * 5 + 3, none⟩ (.string vs)).setCell ⟨gg, ps.length * 5 + 4, none⟩ (.slice sa vl.length sc)) (.slice (some ⟨gg, 0, none⟩) (ps.length + 1) cap) (ps ++ [(V.mk vk vi vf vs vl, (.slice sa vl.length sc))]) from HO5.out.put (t := V.mk vk vi vf vs vl) rfl HV5.out hzr (fun q hq => (HS.out.own.1.lt q hq).2) rfl (ownsRow_setCell_below HOW.out how _) (fun b hb0 hb hne => by rw [Below.heap_setCell _ _ _ _ (show b ≠ ob by omega)]; exact HG6.out.block b hb (fun e => hne e.symm)) (HAT.out.imp id (fun e => by omega)))
                have HOKX := Lib.hid (show ok6 ((((((w6.setCell ⟨ob, 5, none⟩ (.slice (some ⟨gg, 0, none⟩) (ps.length + 1) cap)).setCell ⟨gg, ps.length * 5, none⟩ (.int .i64 vk)).setCell ⟨gg, ps.length * 5 + 1, none⟩ (.int .i64 vi)).setCell ⟨gg, ps.length * 5 + 2, none⟩ (.float .f64 vf)).setCell ⟨gg, ps.length * 5 + 3, none⟩ (.string vs)).setCell ⟨gg, ps.length * 5 + 4, none⟩ (.slice sa vl.length sc)) ob ic is_ in_ g m (.slice (some ⟨gg, 0, none⟩) (ps.length + 1) cap) from block_setCell hog (block_setCell hog (block_setCell hog (block_setCell hog (block_setCell hog (block_setCell_self (i := 5) HOK6.out))))))
                have HKX := Lib.hid (show ck ((((((w6.setCell ⟨ob, 5, none⟩ (.slice (some ⟨gg, 0, none⟩) (ps.length + 1) cap)).setCell ⟨gg, ps.length * 5, none⟩ (.int .i64 vk)).setCell ⟨gg, ps.length * 5 + 1, none⟩ (.int .i64 vi)).setCell ⟨gg, ps.length * 5 + 2, none⟩ (.float .f64 vf)).setCell ⟨gg, ps.length * 5 + 3, none⟩ (.string vs)).setCell ⟨gg, ps.length * 5 + 4, none⟩ (.slice sa vl.length sc)) rb a zs.length c ((l2 + k + n : Nat) : Int) from block_setCell (show rb ≠ gg by omega) (block_setCell (show rb ≠ gg by omega) (block_setCell (show rb ≠ gg by omega) (block_setCell (show rb ≠ gg by omega) (block_setCell (show rb ≠ gg by omega) (block_setCell hor' HK6.out))))))
                have HBX := Lib.hid (show But2 ob rb w ((((((w6.setCell ⟨ob, 5, none⟩ (.slice (some ⟨gg, 0, none⟩) (ps.length + 1) cap)).setCell ⟨gg, ps.length * 5, none⟩ (.int .i64 vk)).setCell ⟨gg, ps.length * 5 + 1, none⟩ (.int .i64 vi)).setCell ⟨gg, ps.length * 5 + 2, none⟩ (.float .f64 vf)).setCell ⟨gg, ps.length * 5 + 3, none⟩ (.string vs)).setCell ⟨gg, ps.length * 5 + 4, none⟩ (.slice sa vl.length sc)) from ((((((HBW.out.set _ _).set_new hgb _ _).set_new hgb _ _).set_new hgb _ _).set_new hgb _ _).set_new hgb _ _))
                clear hc0 hc1 hc2 hc3 hc4 hf0 hf1 hf2 hf3 hf4 hf5 q5 hix
                generalize (((((w6.setCell ⟨ob, 5, none⟩ (.slice (some ⟨gg, 0, none⟩) (ps.length + 1) cap)).setCell ⟨gg, ps.length * 5, none⟩ (.int .i64 vk)).setCell ⟨gg, ps.length * 5 + 1, none⟩ (.int .i64 vi)).setCell ⟨gg, ps.length * 5 + 2, none⟩ (.float .f64 vf)).setCell ⟨gg, ps.length * 5 + 3, none⟩ (.string vs)).setCell ⟨gg, ps.length * 5 + 4, none⟩ (.slice sa vl.length sc) = wX at *
                go_wp2_with fail
                go_roundw
                case rel =>
                  refine ⟨ps.length + 1, k + n, ps ++ [(V.mk vk vi vf vs vl, (.slice sa vl.length sc))], some ⟨gg, 0, none⟩, cap, by omega, by go_num, by rw [HRD2.out]; simp, ⟨?_, ?_, ?_, HBX.out.cell hpo hpr HP0.out, HBX.out⟩⟩
                  · rw [List.length_append]
                    exact HOX.out
                  · rw [List.length_append]
                    exact HOKX.out
                  · rw [← Nat.add_assoc]
                    exact HKX.out
                case measure => simp [intOf]; omega
            · intro K hK
              rw [if_pos (by rfl)]
              go_simp
              have HA1 := Lib.hid (show Below wr.heap.size wr (wr.alloc (.cells #[.int .i64 0, .int .i64 0, .float .f64 0, .string ⟨#[]⟩, .slice none 0 0] 43)).drew from ((Below.refl wr.heap.size wr).alloc (Nat.le_refl _) (.cells #[.int .i64 0, .int .i64 0, .float .f64 0, .string ⟨#[]⟩, .slice none 0 0] 43)).drew)
              have HZB0 := Lib.hid (show (wr.alloc (.cells #[.int .i64 0, .int .i64 0, .float .f64 0, .string ⟨#[]⟩, .slice none 0 0] 43)).drew.heap[wr.heap.size]? = _ from block_alloc_at (w := wr) (.cells #[.int .i64 0, .int .i64 0, .float .f64 0, .string ⟨#[]⟩, .slice none 0 0] 43) rfl)
              refine hK _ _ (.inr ⟨keepc HA1.out o5, keepc HA1.out pr⟩) ?_
              clear hK
              have HRK1 := Lib.hid (HS.out.rk.below HA1.out)
              have HZr1 := Lib.hid (HZr.out.below HA1.out)
              have HO1b := Lib.hid (HS.out.own.below HA1.out)
              have HOK1 := Lib.hid (show ok6 _ ob ic is_ in_ g m (.slice oa ps.length oc) from block_below HA1.out HS.out.ok)
              have hz1 : wr.heap.size < (wr.alloc (.cells #[.int .i64 0, .int .i64 0, .float .f64 0, .string ⟨#[]⟩, .slice none 0 0] 43)).drew.heap.size := by simp
              have q5 := keepc HA1.out o5
              have qp := keepc HA1.out pr
              generalize (wr.alloc _).drew = w1b at *
              try simp only [Act.put, List.setIfInBounds_toArray, List.set_cons_zero, List.set_cons_succ]
              refine M_one 3 rfl (by kernel_rfl) (fun K hK => ?_)
              rw [if_pos (by rfl)]
              go_simp
              refine (HCV.out _ HRK1.out HZr1.out).mono ?_
              rintro e w4 ⟨hb4, h4⟩
              rw [HD2.out, vread_vrd, HX.out] at h4
              simp only [if_true, V.k_mk, V.i_mk, V.f_mk, V.s_mk, V.l_mk] at h4
              obtain ⟨sa, sc, rfl, hv4, hk4⟩ := h4
              have HK4 := Lib.hid (show ck w4 rb a zs.length c ((l2 + k + n : Nat) : Int) by rw [show ((l2 + k + n : Nat) : Int) = ((l2 + k : Nat) : Int) + (n : Int) by omega]; exact hk4)
              have HB5 := Lib.hid ((But2.of_below (ob := ob) (rb := rb) HA1.out).trans (But2.of_but hb4))
              have HO5 := Lib.hid (HO1b.out.same (w' := w4) (fun q h1 h2 => hb4.block q h2 (fun e => by have := Option.some.inj e; omega)))
              have HOK5 := Lib.hid (show ok6 w4 ob ic is_ in_ g m (.slice oa ps.length oc) from hb4.obj hor HOK1.out)
              have HK5 := Lib.hid HK4.out
              have HZB := Lib.hid (hb4.obj (show wr.heap.size ≠ rb by omega) HZB0.out)
              have HV5 := Lib.hid (show VIn (fun b => wr.heap.size ≤ b) w4 (V.mk vk vi vf vs vl) (.slice sa vl.length sc) from hv4.keep (fun _ _ _ => rfl) (fun b hD _ => by have : w1b.heap.size ≤ b := hD; show wr.heap.size ≤ b; omega))
              have HQP := Lib.hid (show w4.cell? ⟨pb, 0, none⟩ = some (.pointer (some ⟨rb, 0, none⟩)) by rw [hb4.cell_far ⟨pb, 0, none⟩ (World.block_lt_of_cell? w1b _ qp) (fun e => hpr (Option.some.inj e))]; exact qp)
              refine hK _ _ (.inr ⟨by rw [hb4.cell_far ⟨ob, 5, none⟩ (World.block_lt_of_cell? w1b _ q5) (fun e => hor (Option.some.inj e))]; exact q5, HQP.out⟩) ?_
              clear hK hb4 hv4 hk4 q5 qp HOK1 HO1b HK4
              try simp only [Act.put, List.setIfInBounds_toArray, List.set_cons_zero, List.set_cons_succ]
              refine M_one 6 rfl (by kernel_rfl) (fun K hK => ?_)
              obtain ⟨i0, hi0, hz0, hz1', hz2⟩ := info_parts infoV
              refine step_append_lies w4 rfl _ _ 27 rfl w.heap.size 43 i0 _ 5 64 Try.underlying27 hi0 hz0 hz1' hz2 rfl (by omega) (.slice oa ps.length oc) ps.length (flat ps) rfl HO5.out.1 ⟨wr.heap.size, 0, none⟩ 1 1 (flat [(V.nil, .slice none 0 0)]) rfl rfl (World.news_of_block HZB.out) one5 (by omega) (by unfold maxLen; omega) (by omega) (Nat.le_trans hzr HB5.out.size) _ rfl ?_
              intro gg cap w6 h1 h2 h3 h4
              have HOW := Lib.hid h1
              have HG6 := Lib.hid h2
              have HAT := Lib.hid h3
              have HBL6 := Lib.hid (show Below w.heap.size w4 w6 from (Below.refl w.heap.size w4).grown h2 (Nat.le_trans hzr HB5.out.size) (fun q hq => (HO5.out.1.lt q hq).1))
              have hgb : w.heap.size ≤ gg := (h1.lt gg rfl).1
              have HOK6 := Lib.hid (show ok6 w6 ob ic is_ in_ g m (.slice oa ps.length oc) from block_belowB HBL6.out how HOK5.out)
              have HK6 := Lib.hid (show ck w6 rb a zs.length c ((l2 + k + n : Nat) : Int) from block_belowB HBL6.out hrw HK5.out)
              have hc0 : w6.cell? ⟨gg, ps.length * 5, none⟩ = some (.int .i64 0) := by rw [h1.cellAt _ (by omega)]; simp [flat, flat_length, V.nil]
              have hc1 : w6.cell? ⟨gg, ps.length * 5 + 1, none⟩ = some (.int .i64 0) := by rw [h1.cellAt _ (by omega)]; simp [flat, flat_length, V.nil]
              have hc2 : w6.cell? ⟨gg, ps.length * 5 + 2, none⟩ = some (.float .f64 0) := by rw [h1.cellAt _ (by omega)]; simp [flat, flat_length, V.nil]
              have hc3 : w6.cell? ⟨gg, ps.length * 5 + 3, none⟩ = some (.string ⟨#[]⟩) := by rw [h1.cellAt _ (by omega)]; simp [flat, flat_length, V.nil]
              have hc4 : w6.cell? ⟨gg, ps.length * 5 + 4, none⟩ = some (.slice none 0 0) := by rw [h1.cellAt _ (by omega)]; simp [flat, flat_length, V.nil]
              have hfz := fun j => h1.frozenAt j
              have hf0 := hfz (ps.length * 5)
              have hf1 := hfz (ps.length * 5 + 1)
              have hf2 := hfz (ps.length * 5 + 2)
              have hf3 := hfz (ps.length * 5 + 3)
              have hf4 := hfz (ps.length * 5 + 4)
              obtain ⟨⟨⟨_, _, _⟩, _, _, q5⟩, hfo6, _⟩ := HOK6.out.cells
              have hf5 := hfo6 5
              have hgo : ¬ gg = ob := by omega
              have hog : ¬ ob = gg := by omega
              refine hK _ _ (.inr ⟨q5, keepcB HBL6.out hpw HQP.out⟩) ?_
              have hix : (ps.length : Int) < (ps.length : Int) + 1 := by omega
              clear hK h1 h2 h3 hfz hfo6 o0 o1 o2 o3 o4 o5 pr f5
              try simp only [Act.put, List.setIfInBounds_toArray, List.set_cons_zero, List.set_cons_succ]
              refine M_pure 7 rfl (by decide) (by kernel_rfl) (by kernel_rfl) (by kernel_rfl) (fun _ _ _ h => h) (by rfl) (by (intro w'; go_simp; try with_reducible rfl)) ?_
              try simp only [Act.put, List.setIfInBounds_toArray, List.set_cons_zero, List.set_cons_succ]
              refine M_pure 9 rfl (by decide) (by kernel_rfl) (by kernel_rfl) (by kernel_rfl) (fun _ _ _ h => h) (by rfl) (by (intro w'; go_simp; try with_reducible rfl)) ?_
              try simp only [Act.put, List.setIfInBounds_toArray, List.set_cons_zero, List.set_cons_succ]
              have HBW := Lib.hid (show But2 ob rb w w6 from ⟨HBL6.out.os.trans (HS.out.but.trans HB5.out).os, HBL6.out.tape.trans (HS.out.but.trans HB5.out).tape, HBL6.out.output.trans (HS.out.but.trans HB5.out).output, Nat.le_trans (HS.out.but.trans HB5.out).size HBL6.out.size, fun q hq h1 h2 => by rw [HBL6.out.block q hq]; exact (HS.out.but.trans HB5.out).block q hq h1 h2⟩)
              refine M_two 8 10 rfl rfl (by kernel_rfl) ?_ ?_
              · intro K hK
                rw [if_pos (by rfl)]
                go_simp
                refine hK _ _ (.inl (by decide)) ?_
                clear hK
                try simp only [Act.put, List.setIfInBounds_toArray, List.set_cons_zero, List.set_cons_succ]
                refine M_one 10 rfl (by kernel_rfl) (fun K hK => ?_)
                rw [if_pos (by rfl)]
                go_simp
                refine hK _ _ (.inl (by decide)) ?_
                clear hK
                try simp only [Act.put, List.setIfInBounds_toArray, List.set_cons_zero, List.set_cons_succ]
                refine M_done (by kernel_rfl) ?_ _
                have HOX := Lib.hid (show OwnV 43 w.heap.size ((((((w6.setCell ⟨gg, ps.length * 5, none⟩ (.int .i64 vk)).setCell ⟨gg, ps.length * 5 + 1, none⟩ (.int .i64 vi)).setCell ⟨gg, ps.length * 5 + 2, none⟩ (.float .f64 vf)).setCell ⟨gg, ps.length * 5 + 3, none⟩ (.string vs)).setCell ⟨gg, ps.length * 5 + 4, none⟩ (.slice sa vl.length sc)).setCell ⟨ob, 5, none⟩ (.slice (some ⟨gg, 0, none⟩) (ps.length + 1) cap)) (.slice (some ⟨gg, 0, none⟩) (ps.length + 1) cap) (ps ++ [(V.mk vk vi vf vs vl, (.slice sa vl.length sc))]) from (HO5.out.put (t := V.mk vk vi vf vs vl) rfl HV5.out hzr (fun q hq => (HS.out.own.1.lt q hq).2) rfl HOW.out (fun b hb0 hb hne => HG6.out.block b hb (fun e => hne e.symm)) (HAT.out.imp id (fun e => by omega))).setCell how _)
                have HOKX := Lib.hid (show ok6 ((((((w6.setCell ⟨gg, ps.length * 5, none⟩ (.int .i64 vk)).setCell ⟨gg, ps.length * 5 + 1, none⟩ (.int .i64 vi)).setCell ⟨gg, ps.length * 5 + 2, none⟩ (.float .f64 vf)).setCell ⟨gg, ps.length * 5 + 3, none⟩ (.string vs)).setCell ⟨gg, ps.length * 5 + 4, none⟩ (.slice sa vl.length sc)).setCell ⟨ob, 5, none⟩ (.slice (some ⟨gg, 0, none⟩) (ps.length + 1) cap)) ob ic is_ in_ g m (.slice (some ⟨gg, 0, none⟩) (ps.length + 1) cap) from block_setCell_self (i := 5) (block_setCell hog (block_setCell hog (block_setCell hog (block_setCell hog (block_setCell hog HOK6.out))))))
                have HKX := Lib.hid (show ck ((((((w6.setCell ⟨gg, ps.length * 5, none⟩ (.int .i64 vk)).setCell ⟨gg, ps.length * 5 + 1, none⟩ (.int .i64 vi)).setCell ⟨gg, ps.length * 5 + 2, none⟩ (.float .f64 vf)).setCell ⟨gg, ps.length * 5 + 3, none⟩ (.string vs)).setCell ⟨gg, ps.length * 5 + 4, none⟩ (.slice sa vl.length sc)).setCell ⟨ob, 5, none⟩ (.slice (some ⟨gg, 0, none⟩) (ps.length + 1) cap)) rb a zs.length c ((l2 + k + n : Nat) : Int) from block_setCell hor' (block_setCell (show rb ≠ gg by omega) (block_setCell (show rb ≠ gg by omega) (block_setCell (show rb ≠ gg by omega) (block_setCell (show rb ≠ gg by omega) (block_setCell (show rb ≠ gg by omega) HK6.out))))))
                have HBX := Lib.hid (show But2 ob rb w ((((((w6.setCell ⟨gg, ps.length * 5, none⟩ (.int .i64 vk)).setCell ⟨gg, ps.length * 5 + 1, none⟩ (.int .i64 vi)).setCell ⟨gg, ps.length * 5 + 2, none⟩ (.float .f64 vf)).setCell ⟨gg, ps.length * 5 + 3, none⟩ (.string vs)).setCell ⟨gg, ps.length * 5 + 4, none⟩ (.slice sa vl.length sc)).setCell ⟨ob, 5, none⟩ (.slice (some ⟨gg, 0, none⟩) (ps.length + 1) cap)) from ((((((HBW.out.set_new hgb _ _).set_new hgb _ _).set_new hgb _ _).set_new hgb _ _).set_new hgb _ _)).set _ _)
                clear hc0 hc1 hc2 hc3 hc4 hf0 hf1 hf2 hf3 hf4 hf5 q5 hix
                generalize (((((w6.setCell ⟨gg, ps.length * 5, none⟩ (.int .i64 vk)).setCell ⟨gg, ps.length * 5 + 1, none⟩ (.int .i64 vi)).setCell ⟨gg, ps.length * 5 + 2, none⟩ (.float .f64 vf)).setCell ⟨gg, ps.length * 5 + 3, none⟩ (.string vs)).setCell ⟨gg, ps.length * 5 + 4, none⟩ (.slice sa vl.length sc)).setCell ⟨ob, 5, none⟩ (.slice (some ⟨gg, 0, none⟩) (ps.length + 1) cap) = wX at *
                go_wp2_with fail
                go_roundw
                case rel =>
                  refine ⟨ps.length + 1, k + n, ps ++ [(V.mk vk vi vf vs vl, (.slice sa vl.length sc))], some ⟨gg, 0, none⟩, cap, by omega, by go_num, by rw [HRD2.out]; simp, ⟨?_, ?_, ?_, HBX.out.cell hpo hpr HP0.out, HBX.out⟩⟩
                  · rw [List.length_append]
                    exact HOX.out
                  · rw [List.length_append]
                    exact HOKX.out
                  · rw [← Nat.add_assoc]
                    exact HKX.out
                case measure => simp [intOf]; omega
              · intro K hK
                rw [if_pos (by rfl)]
                go_simp
                refine hK _ _ (.inl (by decide)) ?_
                clear hK
                try simp only [Act.put, List.setIfInBounds_toArray, List.set_cons_zero, List.set_cons_succ]
                refine M_one 8 rfl (by kernel_rfl) (fun K hK => ?_)
                rw [if_pos (by rfl)]
                go_simp
                refine hK _ _ (.inl (by decide)) ?_
                clear hK
                try simp only [Act.put, List.setIfInBounds_toArray, List.set_cons_zero, List.set_cons_succ]
                refine M_done (by kernel_rfl) ?_ _
                have HOX := Lib.hid (show OwnV 43 w.heap.size ((((((w6.setCell ⟨ob, 5, none⟩ (.slice (some ⟨gg, 0, none⟩) (ps.length + 1) cap)).setCell ⟨gg, ps.length * 5, none⟩ (.int .i64 vk)).setCell ⟨gg, ps.length * 5 + 1, none⟩ (.int .i64 vi)).setCell ⟨gg, ps.length * 5 + 2, none⟩ (.float .f64 vf)).setCell ⟨gg, ps.length * 5 + 3, none⟩ (.string vs)).setCell ⟨gg, ps.length * 5 + 4, none⟩ (.slice sa vl.length sc)) (.slice (some ⟨gg, 0, none⟩) (ps.length + 1) cap) (ps ++ [(V.mk vk vi vf vs vl, (.slice sa vl.length sc))]) from HO5.out.put (t := V.mk vk vi vf vs vl) rfl HV5.out hzr (fun q hq => (HS.out.own.1.lt q hq).2) rfl (ownsRow_setCell_below HOW.out how _) (fun b hb0 hb hne => by rw [Below.heap_setCell _ _ _ _ (show b ≠ ob by omega)]; exact HG6.out.block b hb (fun e => hne e.symm)) (HAT.out.imp id (fun e => by omega)))
                have HOKX := Lib.hid (show ok6 ((((((w6.setCell ⟨ob, 5, none⟩ (.slice (some ⟨gg, 0, none⟩) (ps.length + 1) cap)).setCell ⟨gg, ps.length * 5, none⟩ (.int .i64 vk)).setCell ⟨gg, ps.length * 5 + 1, none⟩ (.int .i64 vi)).setCell ⟨gg, ps.length * 5 + 2, none⟩ (.float .f64 vf)).setCell ⟨gg, ps.length * 5 + 3, none⟩ (.string vs)).setCell ⟨gg, ps.length * 5 + 4, none⟩ (.slice sa vl.length sc)) ob ic is_ in_ g m (.slice (some ⟨gg, 0, none⟩) (ps.length + 1) cap) from block_setCell hog (block_setCell hog (block_setCell hog (block_setCell hog (block_setCell hog (block_setCell_self (i := 5) HOK6.out))))))
                have HKX := Lib.hid (show ck ((((((w6.setCell ⟨ob, 5, none⟩ (.slice (some ⟨gg, 0, none⟩) (ps.length + 1) cap)).setCell ⟨gg, ps.length * 5, none⟩ (.int .i64 vk)).setCell ⟨gg, ps.length * 5 + 1, none⟩ (.int .i64 vi)).setCell ⟨gg, ps.length * 5 + 2, none⟩ (.float .f64 vf)).setCell ⟨gg, ps.length * 5 + 3, none⟩ (.string vs)).setCell ⟨gg, ps.length * 5 + 4, none⟩ (.slice sa vl.length sc)) rb a zs.length c ((l2 + k + n : Nat) : Int) from block_setCell (show rb ≠ gg by omega) (block_setCell (show rb ≠ gg by omega) (block_setCell (show rb ≠ gg by omega) (block_setCell (show rb ≠ gg by omega) (block_setCell (show rb ≠ gg by omega) (block_setCell hor' HK6.out))))))
                have HBX := Lib.hid (show But2 ob rb w ((((((w6.setCell ⟨ob, 5, none⟩ (.slice (some ⟨gg, 0, none⟩) (ps.length + 1) cap)).setCell ⟨gg, ps.length * 5, none⟩ (.int .i64 vk)).setCell ⟨gg, ps.length * 5 + 1, none⟩ (.int .i64 vi)).setCell ⟨gg, ps.length * 5 + 2, none⟩ (.float .f64 vf)).setCell ⟨gg, ps.length * 5 + 3, none⟩ (.string vs)).setCell ⟨gg, ps.length * 5 + 4, none⟩ (.slice sa vl.length sc)) from ((((((HBW.out.set _ _).set_new hgb _ _).set_new hgb _ _).set_new hgb _ _).set_new hgb _ _).set_new hgb _ _))
                clear hc0 hc1 hc2 hc3 hc4 hf0 hf1 hf2 hf3 hf4 hf5 q5 hix
                generalize (((((w6.setCell ⟨ob, 5, none⟩ (.slice (some ⟨gg, 0, none⟩) (ps.length + 1) cap)).setCell ⟨gg, ps.length * 5, none⟩ (.int .i64 vk)).setCell ⟨gg, ps.length * 5 + 1, none⟩ (.int .i64 vi)).setCell ⟨gg, ps.length * 5 + 2, none⟩ (.float .f64 vf)).setCell ⟨gg, ps.length * 5 + 3, none⟩ (.string vs)).setCell ⟨gg, ps.length * 5 + 4, none⟩ (.slice sa vl.length sc) = wX at *
                go_wp2_with fail
                go_roundw
                case rel =>
                  refine ⟨ps.length + 1, k + n, ps ++ [(V.mk vk vi vf vs vl, (.slice sa vl.length sc))], some ⟨gg, 0, none⟩, cap, by omega, by go_num, by rw [HRD2.out]; simp, ⟨?_, ?_, ?_, HBX.out.cell hpo hpr HP0.out, HBX.out⟩⟩
                  · rw [List.length_append]
                    exact HOX.out
                  · rw [List.length_append]
                    exact HOKX.out
                  · rw [← Nat.add_assoc]
                    exact HKX.out
                case measure => simp [intOf]; omega
        · have hiz : zN = ps.length := by omega
          have HF := Lib.hid (show res = some (⟨ic, is_, in_, g, m, ps.map Prod.fst⟩, 14 + u + v + 1 + k) by rw [HAR.out]; exact oargs_yes (by omega) (by rw [hiz]; exact HRI.out))
          have HOL := Lib.hid (HS.out.own.list (by omega))
          clear o0 o1 o2 o3 o4 o5
          go_wp2_with fail
          go_end0
          refine ⟨HS.out.but, ?_⟩
          rw [HF.out]
          refine ⟨oa, oc, rfl, by simpa using HS.out.ok, ?_, ?_⟩
          · have := HOL.out.toVL
            simpa using this
          · rw [show 14 + u + v + 1 + k = l2 + k by have := HL2.out; omega]; exact HS.out.rk
end Go.Proofs.Ytkhgbbloeeaceaa
