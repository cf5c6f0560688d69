/- Calls put: by the program. -/
import Derived.Test.YtkhgbbloeeaceaaEa
import Derived.Test.YtkhgbbloeeaceaaLk
namespace Go.Proofs.Ytkhgbbloeeaceaa
open Go Go.RowKit
set_option maxRecDepth 16000
attribute [local go_sem ↓] run_store_float

theorem flatB_byt {l : List V} (h : chk l = 0) : Byt (l.flatMap V.bytes) := by
  intro z hz
  obtain ⟨t, ht, hz⟩ := List.mem_flatMap.1 hz
  exact V.bytes_byt t (V.check_zero (chk_mem h t ht)).1 z hz

theorem put2_long (base : Nat) (a : Option Addr) (ca : Nat) (zs : List Int) (c s n : Nat) (g m : ByteArray) (l : List V) (al : Value) (w : World) (hi : c < 4294967296 ∧ s < 4294967296 ∧ n < 65536) (hs : g.size ≤ 140737488351232 ∧ m.size ≤ 140737488351232) (hz : BIn w a zs) (hc : a = none → ca = 0) (hlc : zs.length ≤ ca) (hbase : base ≤ w.heap.size) (hl : zs.length ≤ 140737470000000) (hv : VIn (fun b => b < base) w (VL l) al) (h : 16 < l.length) :
    Calls Try.prog 26 #[.slice a zs.length ca, oval c s n g m al] w (RetNE w base (oput zs c s n g m l)) := by
  obtain ⟨va, vc, rfl, hvl, _, _, _⟩ := hv.lst
  generalize hr : oput zs c s n g m l = r
  have HR := Lib.hid hr.symm
  have HV := Lib.hid hv
  have HZ := Lib.hid hz
  have HBY := Lib.hid hz.byt
  have HBB := Lib.hid (fun o => ((Below.refl w.heap.size w).alloc (Nat.le_refl _) o : Below w.heap.size w (w.alloc o)))
  clear hr hv hz
  have HF := Lib.hid (show r = ([], 22) by rw [HR.out]; exact oput_big (.inl h))
  go_enter Try.func26, Try.ntmps26
  go_wp2_with fail
  exact bodyPost_ret (v := .tuple #[.slice none 0 0, .int .i64 22]) (by simp [results, Try.results26, go_sem]) rfl ⟨_, by rw [HF.out], by rw [HF.out]; exact Bs.nil, HBB.out _, (fun _ h => by cases h)⟩

set_option maxHeartbeats 4000000 in
theorem put2_args (base : Nat) (a : Option Addr) (ca : Nat) (zs : List Int) (c s n : Nat) (g m : ByteArray) (l : List V) (al : Value) (w : World) (hi : c < 4294967296 ∧ s < 4294967296 ∧ n < 65536) (hs : g.size ≤ 140737488351232 ∧ m.size ≤ 140737488351232) (hz : BIn w a zs) (hc : a = none → ca = 0) (hlc : zs.length ≤ ca) (hbase : base ≤ w.heap.size) (hl : zs.length ≤ 140737470000000) (hv : VIn (fun b => b < base) w (VL l) al) (h : l.length ≤ 16) :
    Calls Try.prog 26 #[.slice a zs.length ca, oval c s n g m al] w (RetNE w base (oput zs c s n g m l)) := by
  obtain ⟨va, vc, rfl, hvl, _, _, _⟩ := hv.lst
  generalize hr : oput zs c s n g m l = r
  have HR := Lib.hid hr.symm
  have HV := Lib.hid hv
  have HZ := Lib.hid hz
  have HBY := Lib.hid hz.byt
  have HBB := Lib.hid (fun o => ((Below.refl w.heap.size w).alloc (Nat.le_refl _) o : Below w.heap.size w (w.alloc o)))
  clear hr hv hz
  have hw8 : IntKind.u8.wrap (l.length : Int) = l.length := by simp [IntKind.wrap, IntKind.bits, IntKind.signed]; omega
  go_enter Try.func26, Try.ntmps26
  go_wp2_with fail
  have HT0 := Lib.hid (at6.new (w := w) (c := c) (s := s) (n := n) (g := g) (m := m) (sl := .slice va l.length vc) (t := 29))
  have HBO := Lib.hid (HBB.out (.cells #[.int .u32 c, .int .u32 s, .int .u16 n, .string g, .string m, .slice va l.length vc] 29))
  have HZ0 := Lib.hid (show base ≤ (w.alloc (.cells #[.int .u32 c, .int .u32 s, .int .u16 n, .string g, .string m, .slice va l.length vc] 29)).heap.size by simp; omega)
  have HV0 := Lib.hid (HV.out.below HBO.out)
  have HB0 := Lib.hid (HZ.out.below HBO.out)
  obtain ⟨⟨c0, c1, c2⟩, c3, c4, c5⟩ := HT0.out
  generalize w.alloc _ = w0 at *
  have HC := Lib.hid (fun (wr : World) (g' : Below w0.heap.size w0 wr) => (at6.keep g' HT0.out : at6 wr w.heap.size c s n g m (.slice va l.length vc)))
  refine (putId2_c base a ca zs c s n w0 hi HB0.out hc hlc HZ0.out (by omega)).mono ?_
  rintro e w1 ⟨sl1, rfl, hown1, hbel1, hat1⟩
  generalize hz1 : zs ++ idB c s n = Z1 at hown1
  have HZ1Q := Lib.hid hz1
  have HBE1 := Lib.hid (show Byt Z1 ∧ Z1.length = zs.length + 10 by rw [← hz1]; exact ⟨HBY.out.append (((beB_byt _ _).append (beB_byt _ _)).append (beB_byt _ _)), by simp [idB_length]⟩)
  have HF1 := Lib.hid (And.intro (show Bs w1 base sl1 Z1 from .inl hown1) (And.intro hbel1 hat1))
  clear c0 c1 c2 c3 c4 c5
  obtain ⟨⟨c0, c1, c2⟩, c3, c4, c5⟩ := HC.out w1 hbel1
  clear hown1 hbel1 hat1 hz1
  go_wp2_with fail
  have HAL := Lib.hid ((Below.refl w1.heap.size w1).alloc (Nat.le_refl _) (.cells #[.string g, .string m] 9))
  have HG0 := Lib.hid (show (w1.alloc (.cells #[.string g, .string m] 9)).cell? ⟨w1.heap.size, 0, none⟩ = some (.string g) ∧ (w1.alloc (.cells #[.string g, .string m] 9)).cell? ⟨w1.heap.size, 1, none⟩ = some (.string m) by simp)
  generalize w1.alloc _ = w2 at *
  have HF2 := Lib.hid (And.intro (HF1.out.1.below HAL.out) (And.intro (HF1.out.2.1.trans (HAL.out.mono HF1.out.2.1.size)) HF1.out.2.2))
  generalize w1.heap.size = B2 at *
  clear HF1 HAL c0 c1 c2 c3 c4 c5
  go_loopw [6, 26] (fun ov j wr => ∃ (k : Nat) (Z : List Int), k ≤ 2 ∧ j = .int .i64 k ∧ (k = 0 ∧ Z = Z1 ∨ k = 1 ∧ g.size ≤ 32 ∧ Z = Z1 ++ beB g.size 2 ++ strI g ∨ k = 2 ∧ g.size ≤ 32 ∧ m.size ≤ 32 ∧ Z = Z1 ++ beB g.size 2 ++ strI g ++ beB m.size 2 ++ strI m) ∧ Bs wr base ov Z ∧ Below w0.heap.size w0 wr ∧ (∀ q, ov.ownBlock = some q → w0.heap.size ≤ q) ∧ wr.cell? ⟨B2, 0, none⟩ = some (.string g) ∧ wr.cell? ⟨B2, 1, none⟩ = some (.string m)) (fun _ j _ => 2 - (intOf j).toNat)
  case atStart => exact ⟨0, Z1, by omega, rfl, .inl ⟨rfl, rfl⟩, HF2.out.1, HF2.out.2.1, HF2.out.2.2, HG0.out.1, HG0.out.2⟩
  case round =>
    obtain ⟨k, Z, hk, rfl, hst, hbs, hbel, hfr, g0, g1⟩ := hrel
    have hby : Byt Z ∧ Z.length ≤ 140737470010000 := by
      obtain ⟨q1, q2⟩ := HBE1.out
      rcases hst with ⟨_, rfl⟩ | ⟨_, q3, rfl⟩ | ⟨_, q3, q4, rfl⟩
      · exact ⟨q1, by omega⟩
      · exact ⟨(q1.append (beB_byt _ _)).append (strI_byte _), by simp [beB_length, strI_length]; omega⟩
      · exact ⟨(((q1.append (beB_byt _ _)).append (strI_byte _)).append (beB_byt _ _)).append (strI_byte _), by simp [beB_length, strI_length]; omega⟩
    obtain ⟨ao, co, rfl, hf1, hf2, hf3⟩ := hbs.binB hby.1 (by omega)
    have HF3 := Lib.hid (show Z.length ≤ 140737470010000 ∧ (Z.length ≤ co ∧ co ≤ 9223372036854775807) ∧ (ao = none → co = 0) ∧ BIn wr ao Z from ⟨hby.2, hf1, hf2, hf3⟩)
    have HS := Lib.hid (And.intro hbs (And.intro hbel hfr))
    have HBYZ := Lib.hid hby.1
    clear hby hf1 hf2 hf3 hbs hbel hfr
    rcases hst with ⟨rfl, hzq⟩ | ⟨rfl, hgz, hzq⟩ | ⟨rfl, hgz, hmz, hzq⟩
    · have HZQ := Lib.hid hzq
      clear hzq
      by_cases hg : g.size ≤ 32
      · go_wp2_with fail
        refine (ptext2_c base ao co Z g 32 _ HF3.out.2.2.2 HF3.out.2.2.1 HF3.out.2.1.1 (Nat.le_trans HZ0.out HS.out.2.1.size) (Nat.le_trans HF3.out.1 (by decide)) hs.1).mono ?_
        rintro e w5 ⟨sl5, rfl, hbs5, hbel5, hat5⟩
        rw [ptext32 hg] at hbs5 ⊢
        have HF5 := Lib.hid (And.intro hbs5 (And.intro (HS.out.2.1.trans (hbel5.mono HS.out.2.1.size)) (show ∀ k, sl5.ownBlock = some k → w0.heap.size ≤ k from fun k hk => Nat.le_trans HS.out.2.1.size (hat5 k hk))))
        have HG5 := Lib.hid (And.intro (keepc hbel5 g0) (keepc hbel5 g1))
        clear hbs5 hbel5 hat5 g0 g1
        go_wp2_with fail
        go_roundw
        case rel => exact ⟨1, Z ++ beB g.size 2 ++ strI g, by omega, by go_num, .inr (.inl ⟨rfl, hg, by rw [HZQ.out]⟩), HF5.out.1, HF5.out.2.1, HF5.out.2.2, HG5.out.1, HG5.out.2⟩
        case measure => simp [intOf]
      · have HF := Lib.hid (show r = ([], 22) by rw [HR.out]; exact oput_big (by omega))
        go_wp2_with fail
        refine (ptext2_c base ao co Z g 32 _ HF3.out.2.2.2 HF3.out.2.2.1 HF3.out.2.1.1 (Nat.le_trans HZ0.out HS.out.2.1.size) (Nat.le_trans HF3.out.1 (by decide)) hs.1).mono ?_
        rintro e w5 ⟨sl5, rfl, _, hbel5, _⟩
        rw [ptext32_no hg]
        have HB5 := Lib.hid (HBO.out.trans ((HS.out.2.1.trans (hbel5.mono HS.out.2.1.size)).mono HBO.out.size))
        clear hbel5 g0 g1
        go_wp2_with fail
        exact bodyPost_ret (v := .tuple #[.slice none 0 0, .int .i64 22]) (by simp [results, Try.results26, go_sem]) rfl ⟨_, by rw [HF.out], by rw [HF.out]; exact Bs.nil, HB5.out, (fun _ h => by cases h)⟩
    · have HZQ := Lib.hid hzq
      have HGZ := Lib.hid hgz
      clear hzq
      by_cases hm : m.size ≤ 32
      · go_wp2_with fail
        refine (ptext2_c base ao co Z m 32 _ HF3.out.2.2.2 HF3.out.2.2.1 HF3.out.2.1.1 (Nat.le_trans HZ0.out HS.out.2.1.size) (Nat.le_trans HF3.out.1 (by decide)) hs.2).mono ?_
        rintro e w5 ⟨sl5, rfl, hbs5, hbel5, hat5⟩
        rw [ptext32 hm] at hbs5 ⊢
        have HF5 := Lib.hid (And.intro hbs5 (And.intro (HS.out.2.1.trans (hbel5.mono HS.out.2.1.size)) (show ∀ k, sl5.ownBlock = some k → w0.heap.size ≤ k from fun k hk => Nat.le_trans HS.out.2.1.size (hat5 k hk))))
        have HG5 := Lib.hid (And.intro (keepc hbel5 g0) (keepc hbel5 g1))
        clear hbs5 hbel5 hat5 g0 g1
        go_wp2_with fail
        go_roundw
        case rel => exact ⟨2, Z ++ beB m.size 2 ++ strI m, by omega, by go_num, .inr (.inr ⟨rfl, HGZ.out, hm, by rw [HZQ.out]⟩), HF5.out.1, HF5.out.2.1, HF5.out.2.2, HG5.out.1, HG5.out.2⟩
        case measure => simp [intOf]
      · have HF := Lib.hid (show r = ([], 22) by rw [HR.out]; exact oput_big (by omega))
        go_wp2_with fail
        refine (ptext2_c base ao co Z m 32 _ HF3.out.2.2.2 HF3.out.2.2.1 HF3.out.2.1.1 (Nat.le_trans HZ0.out HS.out.2.1.size) (Nat.le_trans HF3.out.1 (by decide)) hs.2).mono ?_
        rintro e w5 ⟨sl5, rfl, _, hbel5, _⟩
        rw [ptext32_no hm]
        have HB5 := Lib.hid (HBO.out.trans ((HS.out.2.1.trans (hbel5.mono HS.out.2.1.size)).mono HBO.out.size))
        clear hbel5 g0 g1
        go_wp2_with fail
        exact bodyPost_ret (v := .tuple #[.slice none 0 0, .int .i64 22]) (by simp [results, Try.results26, go_sem]) rfl ⟨_, by rw [HF.out], by rw [HF.out]; exact Bs.nil, HB5.out, (fun _ h => by cases h)⟩
    · have HZQ := Lib.hid hzq
      have HBIG := Lib.hid (show ¬ (16 < l.length ∨ 32 < g.size ∨ 32 < m.size) by omega)
      have HLN := Lib.hid (show Z.length + 1 ≤ 140737488355328 by have := HF3.out.1; omega)
      obtain ⟨⟨c0, c1, c2⟩, c3, c4, c5⟩ := HC.out wr HS.out.2.1
      have HZR := Lib.hid (show base ≤ wr.heap.size from Nat.le_trans HZ0.out HS.out.2.1.size)
      clear hzq g0 g1
      go_wp2_with (at_builtin; (refine wpList_append_bs _ rfl _ _ rfl base (.slice ao Z.length co) Z [(l.length : Int)] rfl (HS.out.1.below ((Below.refl _ _).alloc (Nat.le_refl _) _)) ⟨wr.heap.size, 0, none⟩ 1 1 rfl rfl (World.news_of_block (heap_alloc_new wr _)) (by decide) HLN.out (by have := HZR.out; simp; omega) ?_; intro g4 cap4 w4 hap4; have HF4 := Lib.hid (hap4.fresh (w := w0) (HS.out.2.1.trans (((Below.refl wr.heap.size wr).alloc (Nat.le_refl _) _).mono HS.out.2.1.size)) HS.out.2.2); obtain ⟨_, _, _, c5b⟩ := HC.out w4 HF4.out.2.1))
      clear hap4 c0 c1 c2 c3 c4 c5 c5b
      generalize (Value.slice (some ⟨g4, 0, none⟩) (Z.length + 1) cap4) = s4 at *
      generalize hz4 : Z ++ [(l.length : Int)] = Z4 at HF4
      have HBE4 := Lib.hid (show Byt Z4 ∧ Z4.length ≤ 140737470020000 by rw [← hz4]; exact ⟨HBYZ.out.append (Byt.one (by omega)), by have := HF3.out.1; simp; omega⟩)
      have HZ4Q := Lib.hid hz4
      clear hz4
      go_loopw [6, 50] (fun ov j wr => ∃ k : Nat, k ≤ l.length ∧ j = .int .i64 k ∧ chk (l.take k) = 0 ∧ Bs wr base ov (Z4 ++ (l.take k).flatMap V.bytes) ∧ Below w0.heap.size w0 wr ∧ (∀ q, ov.ownBlock = some q → w0.heap.size ≤ q)) (fun _ j _ => l.length - (intOf j).toNat)
      case atStart => exact ⟨0, by omega, rfl, rfl, by simpa using HF4.out.1, HF4.out.2.1, HF4.out.2.2⟩
      case round =>
        obtain ⟨k, hk, rfl, hck, hbs, hbel, hfr⟩ := hrel
        have hby : Byt (Z4 ++ (l.take k).flatMap V.bytes) ∧ (Z4 ++ (l.take k).flatMap V.bytes).length ≤ 140737471000000 := by
          have h1 := flatB_len hck
          rw [List.length_take] at h1
          have h2 := HBE4.out.2
          exact ⟨HBE4.out.1.append (flatB_byt hck), by rw [List.length_append]; omega⟩
        generalize hzk : Z4 ++ (l.take k).flatMap V.bytes = Zk at hby hbs
        obtain ⟨ak, ck, rfl, hf1, hf2, hf3⟩ := hbs.binB hby.1 (by omega)
        have HFK := Lib.hid (show Zk.length ≤ 140737471000000 ∧ (Zk.length ≤ ck ∧ ck ≤ 9223372036854775807) ∧ (ak = none → ck = 0) ∧ BIn wr ak Zk from ⟨hby.2, hf1, hf2, hf3⟩)
        have HSK := Lib.hid (And.intro hbs (And.intro hbel hfr))
        have HCK := Lib.hid hck
        have HZKQ := Lib.hid hzk
        clear hby hf1 hf2 hf3 hbs hfr hck hzk
        by_cases hlt : k < l.length
        · obtain ⟨_, _, e1, _, _, _, hin⟩ := (HV0.out.below hbel).lst
          simp only [Value.slice.injEq] at e1
          obtain ⟨rfl, _, rfl⟩ := e1
          obtain ⟨b, o, rfl, he1⟩ := hin.resolve_left (fun e => by simp [e] at hlt)
          obtain ⟨hD, sa, sc, d0, d1, d2, d3, d4, hv⟩ := he1.get hlt
          have HVX := Lib.hid hv
          have hb2 : b < wr.heap.size := World.block_lt_of_cell? _ _ d0
          clear hv hbel he1 hin
          have HAL := Lib.hid (fun o => ((Below.refl wr.heap.size wr).alloc (Nat.le_refl _) o : Below wr.heap.size wr (wr.alloc o)))
          go_wp2_with fail
          refine (Put2_c l[k] base ak ck Zk _ _ (HFK.out.2.2.2.below (HAL.out _)) HFK.out.2.2.1 HFK.out.2.1.1 (by have h1 := HZ0.out; have h2 := HSK.out.2.1.size; simp; omega) (Nat.le_trans HFK.out.1 (by decide)) (HVX.out.below (HAL.out _))).mono ?_
          rintro e w6 ⟨sl6, rfl, hbs6, hbel6, hat6⟩
          have hbw6 := (HAL.out _).trans (hbel6.mono (HAL.out _).size)
          have hfr6 : ∀ q, sl6.ownBlock = some q → w0.heap.size ≤ q := fun q hq => Nat.le_trans (Nat.le_trans HSK.out.2.1.size (HAL.out _).size) (hat6 q hq)
          have HB6 := Lib.hid (HSK.out.2.1.trans (hbw6.mono HSK.out.2.1.size))
          by_cases hx : l[k].check = 0
          · have e6 : vput Zk l[k] = (Z4 ++ (l.take (k + 1)).flatMap V.bytes, 0) := by
              unfold vput; rw [if_pos hx, flat_snoc l k hlt, ← HZKQ.out, List.append_assoc]
            rw [e6] at hbs6 ⊢
            have HF6 := Lib.hid (And.intro hbs6 hfr6)
            have HCK6 := Lib.hid (show chk (l.take (k + 1)) = 0 by rw [chk_take l k hlt HCK.out]; exact hx)
            clear e6 hbs6 hbel6 hat6 hbw6 hfr6 hx d0 d1 d2 d3 d4
            go_wp2_with fail
            go_roundw
            case rel => exact ⟨k + 1, by omega, by go_num, HCK6.out, HF6.out.1, HB6.out, HF6.out.2⟩
            case measure => simp [intOf]; omega
          · have e6 : vput Zk l[k] = ([], l[k].check) := by unfold vput; rw [if_neg hx]
            rw [e6]
            have HF := Lib.hid (show r = ([], l[k].check) by rw [HR.out]; exact oput_no HBIG.out (chk_take l k hlt HCK.out) hx)
            have hxb : (l[k].check != 0) = true := by simpa using hx
            generalize l[k].check = E at hxb HF
            clear e6 hbs6 hbel6 hat6 hbw6 hfr6 hx d0 d1 d2 d3 d4
            go_wp2_with fail
            exact bodyPost_ret (v := .tuple #[.slice none 0 0, .int .i64 E]) (by simp [results, Try.results26, go_sem]) rfl ⟨_, by rw [HF.out], by rw [HF.out]; exact Bs.nil, HBO.out.trans (HB6.out.mono HBO.out.size), (fun _ h => by cases h)⟩
        · have hkl : k = l.length := by omega
          subst hkl
          have HF := Lib.hid (show r = (Zk, 0) by
            rw [HR.out, oput_yes HBIG.out (by have := HCK.out; rwa [List.take_length] at this), ← HZKQ.out, List.take_length, ← HZ4Q.out, HZQ.out, ← HZ1Q.out])
          have HE := Lib.hid (And.intro HSK.out.1 (And.intro (HBO.out.trans (HSK.out.2.1.mono HBO.out.size)) (fun q hq => Nat.le_trans HBO.out.size (HSK.out.2.2 q hq))))
          clear hbel
          go_wp2_with fail
          exact bodyPost_ret (v := .tuple #[.slice ak Zk.length ck, .int .i64 0]) (by simp [results, Try.results26, go_sem]) rfl ⟨_, by rw [HF.out], by rw [HF.out]; exact HE.out.1, HE.out.2.1, HE.out.2.2⟩
theorem put2_op_c (base : Nat) (a : Option Addr) (ca : Nat) (zs : List Int) (c s n : Nat) (g m : ByteArray) (l : List V) (al : Value) (w : World) (hi : c < 4294967296 ∧ s < 4294967296 ∧ n < 65536) (hs : g.size ≤ 140737488351232 ∧ m.size ≤ 140737488351232) (hz : BIn w a zs) (hc : a = none → ca = 0) (hlc : zs.length ≤ ca) (hbase : base ≤ w.heap.size) (hl : zs.length ≤ 140737470000000) (hv : VIn (fun b => b < base) w (VL l) al) :
    Calls Try.prog 26 #[.slice a zs.length ca, oval c s n g m al] w (RetNE w base (oput zs c s n g m l)) := by
  by_cases h : l.length ≤ 16
  · exact put2_args base a ca zs c s n g m l al w hi hs hz hc hlc hbase hl hv h
  · exact put2_long base a ca zs c s n g m l al w hi hs hz hc hlc hbase hl hv (by omega)
end Go.Proofs.Ytkhgbbloeeaceaa
