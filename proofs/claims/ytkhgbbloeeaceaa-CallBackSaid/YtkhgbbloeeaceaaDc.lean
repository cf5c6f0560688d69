/- Values read, by the reference: lists. -/
import Derived.Test.YtkhgbbloeeaceaaDb
namespace Go.Proofs.Ytkhgbbloeeaceaa
open Go Go.RowKit
set_option maxRecDepth 16000
attribute [local go_sem ↓] run_store_float

/-- append of one value, the number of its block a letter. -/
theorem wpList_appendVB {ops : Array Oper} {o : Oper} {a : Act} {Q : Exit → Act → World → Prop} {base : Nat} {w0 w1 : World} {v : Value} {ps : List (V × Value)} {t : V} {sa : Option Addr} {sc : Nat} {rest : List Oper} (B : Nat) (hB : w1.heap.size = B) (hgd : o.guard = none) (s x : Operand) (ho : o.op = .call { callee := .builtin .append, args := #[s, x], argTypes := #[27, 27] })
    (hO : OwnV 43 base w0 v ps) (hb : Below w0.heap.size w0 w1) (hbase : base ≤ w0.heap.size) (hv : VIn (fun b => w0.heap.size ≤ b) w1 t (.slice sa t.l.length sc))
    (hs : a.eval s = v) (hx : a.eval x = .slice (some ⟨B, 0, none⟩) 1 1) (hl : (ps.length + 1) * 64 ≤ 140737488351232)
    (h : ∀ g cap w2, OwnV 43 base w2 (.slice (some ⟨g, 0, none⟩) (ps.length + 1) cap) (ps ++ [(t, .slice sa t.l.length sc)]) → Below base w1 w2 → g < w2.heap.size → w1.heap.size < w2.heap.size → wpList Try.prog ops Q rest (a.put o.dst (.slice (some ⟨g, 0, none⟩) (ps.length + 1) cap)) w2) :
    wpList Try.prog ops Q (o :: rest) a (w1.alloc (.cells #[.int .i64 t.k, .int .i64 t.i, .float .f64 t.f, .string t.s, .slice sa t.l.length sc] 43)) :=
  wpList_appendV hgd s x ho hO hb hbase hv hs (by rw [hB]; exact hx) hl h

theorem RetRd.lst {w w' : World} {r : Option (V × Nat)} (vs : List V) (sa : Option Addr) (len sc : Nat) (n : Nat) (m : Int) (hlen : len = vs.length) (hm : m = n) (hr : r = some (V.lst vs, n)) (hv : VIn (fun b => w.heap.size ≤ b) w' (V.lst vs) (.slice sa len sc)) (hb : Below w.heap.size w w') :
    RetRd w r (.returned (.tuple #[.agg #[.int .i64 4, .int .i64 0, .float .f64 0, .string ⟨#[]⟩, .slice sa len sc], .int .i64 m, .bool true])) w' := by
  subst hm
  subst hlen
  exact RetRd.yes (V.lst vs) sa sc hr hv hb

/-- The state of a list that is being read: the result's block, the list's block, what was read. -/
structure LSt (w wr : World) (oa : Option Addr) (oc : Nat) (ps : List (V × Value)) : Prop where
  own : OwnV 43 (w.heap.size + 2) wr (.slice oa ps.length oc) ps
  r1 : wr.heap[w.heap.size]? = some (.cells #[.int .i64 0, .int .i64 0, .float .f64 0, .string ⟨#[]⟩, .slice none 0 0] 43)
  r2 : wr.heap[w.heap.size + 1]? = some (.cells #[.int .i64 4, .int .i64 0, .float .f64 0, .string ⟨#[]⟩, .slice oa ps.length oc] 43)
  bel : Below w.heap.size w wr

set_option maxHeartbeats 1600000 in
theorem read1_list (d : Nat) (ih : ReadC1 d) (n : Int) (a : Option Addr) (c : Nat) (r : List Int) (w : World) (hd : d ≤ 8) (hn : n = 9 - (d + 1 : Nat)) (hl : ((4 : Int) :: r).length ≤ c ∧ c ≤ 9223372036854775807) (hc : a = none → c = 0) (hz : BIn w a ((4 : Int) :: r)) :
    Calls Try.prog 67 #[.slice a ((4 : Int) :: r).length c, .int .i64 n] w (RetRd w (rd false (d + 1) ((4 : Int) :: r))) := by
  obtain ⟨b, o, rfl, hcell, _, _⟩ := hz 0 (by simp)
  simp only [List.getElem_cons_zero, Nat.add_zero] at hcell
  have hblt : b < w.heap.size := World.block_lt_of_cell? w _ hcell
  have HR0 := rd_cons false d 4 r
  have HR1 : ∀ z r2, r = z :: r2 → rd false (d + 1) ((4 : Int) :: r) = if 64 < z then none else rdLst (rdItems (rd false d) z.toNat r2) := fun z r2 e => by rw [e, rd_four]; simp
  generalize hre : rd false (d + 1) ((4 : Int) :: r) = res at HR0 HR1 ⊢
  have HR := Lib.hid HR0
  have HQ := Lib.hid HR1
  clear HR0 HR1 hre
  have IH := Lib.hid ih
  have HBB := Lib.hid ((Below.refl w.heap.size w).alloc (Nat.le_refl _) (.cells #[.int .i64 0, .int .i64 0, .float .f64 0, .string ⟨#[]⟩, .slice none 0 0] 43))
  have hn8 : n ≤ 8 := by omega
  have hn0 : 0 ≤ n := by omega
  have HN := Lib.hid hn
  clear ih hn
  cases r with
  | nil =>
    have HF := Lib.hid (show res = none by rw [HR.out]; simp)
    clear hz
    simp only [List.length_cons, List.length_nil] at hl ⊢
    go_enter Try.func67, Try.ntmps67
    go_wp2_with fail
    exact bodyPost_ret (v := .tuple #[.agg #[.int .i64 0, .int .i64 0, .float .f64 0, .string ⟨#[]⟩, .slice none 0 0], .int .i64 0, .bool false]) (by simp [results, Try.results67, go_sem]) rfl (RetRd.no V.nil rfl HF.out HBB.out)
  | cons z r2 =>
    obtain ⟨b', o', e', hcell1, hz0, hz1⟩ := hz 1 (by simp)
    simp only [Option.some.injEq, Addr.mk.injEq] at e'
    obtain ⟨rfl, rfl, _⟩ := e'
    simp only [List.getElem_cons_succ, List.getElem_cons_zero] at hcell1 hz0 hz1
    have HZ := Lib.hid hz
    by_cases h64 : 64 < z
    · have HF := Lib.hid (show res = none by rw [HQ.out z r2 rfl, if_pos h64])
      clear hz
      generalize hlen : ((4 : Int) :: z :: r2).length = N at hl ⊢
      have hN : 2 ≤ N := by rw [← hlen]; simp
      have hN0 : ((N : Int) == 0) = false := by simp; omega
      clear hlen
      go_enter Try.func67, Try.ntmps67
      go_wp2_with fail
      exact bodyPost_ret (v := .tuple #[.agg #[.int .i64 0, .int .i64 0, .float .f64 0, .string ⟨#[]⟩, .slice none 0 0], .int .i64 0, .bool false]) (by simp [results, Try.results67, go_sem]) rfl (RetRd.no V.nil rfl HF.out HBB.out)
    · have HF := Lib.hid (show res = rdLst (rdItems (rd false d) z.toNat r2) by rw [HQ.out z r2 rfl, if_neg h64])
      have HSUB := Lib.hid (sub_at (some ⟨b, o, none⟩) c ((4 : Int) :: z :: r2))
      have HLc := Lib.hid hl
      clear hz
      generalize hlen : ((4 : Int) :: z :: r2).length = N at hl HSUB HLc ⊢
      have hN : 2 ≤ N := by rw [← hlen]; simp
      have hN0 : ((N : Int) == 0) = false := by simp; omega
      have hlr : r2.length + 2 = N := by rw [← hlen]; simp
      clear hlen
      go_enter Try.func67, Try.ntmps67
      go_wp2_with fail
      go_loopw [16, 17] (fun at_ j wr => ∃ (m k : Nat) (ps : List (V × Value)) (oa : Option Addr) (oc : Nat), (m : Int) ≤ z ∧ j = .int .i64 m ∧ at_ = .int .i64 (2 + (k : Int)) ∧ rdItems (rd false d) m r2 = some (ps.map Prod.fst, k) ∧ LSt w wr oa oc ps) (fun _ j _ => (z - intOf j).toNat)
      case atStart =>
        exact ⟨0, 0, [], none, 0, by omega, rfl, rfl, rfl, OwnV.nil _ _ _, block_alloc_old _ (block_alloc_at _ rfl), block_alloc_at _ (by simp), ((Below.refl _ _).alloc (Nat.le_refl _) _).alloc (by simp) _⟩
      case round =>
        obtain ⟨m, k, ps, oa, oc, hm, rfl, rfl, hrd, hst⟩ := hrel
        have hkr : k ≤ r2.length := rdItems_le _ (rd_le false d) hrd
        have hpl := rdItems_length _ hrd
        rw [List.length_map] at hpl
        have HRD := Lib.hid hrd
        have HS := Lib.hid hst
        have HPL := Lib.hid hpl
        obtain ⟨⟨r0, r1, r2', r3, r4⟩, hfr⟩ := cells_of_block5 hst.r1
        obtain ⟨⟨o0, o1, o2, o3, o4⟩, hfz⟩ := cells_of_block5 hst.r2
        have hcw := keepcB hst.bel hblt hcell1
        clear hrd hst hpl
        by_cases hlt : (m : Int) < z
        · obtain ⟨a1, c1, ys, hys, hl1, hc1, hbin, hsl⟩ := HSUB.out (2 + k) (by omega) HLc.out (by intro e; cases e)
          have hslw := hsl wr
          rw [show ((2 + k : Nat) : Int) = 2 + (k : Int) by omega] at hslw
          have HB := Lib.hid (BIn.below (hbin w HZ.out) (HS.out.bel))
          clear hsl hbin
          have HYS := Lib.hid (show ys = r2.drop k by rw [hys, Nat.add_comm]; rfl)
          have hz1' : w.heap.size + 1 < wr.heap.size := World.block_lt_of_cell? _ _ o0
          have HZ1 := Lib.hid hz1'
          have hcwr : b < wr.heap.size := World.block_lt_of_cell? _ _ hcw
          clear hys r0 r1 r2' r3 r4 o0 o1 o2 o3 o4 hfr hfz
          cases hx : rd false d ys with
          | none =>
            have HX := Lib.hid hx
            have HF2 := Lib.hid (show res = none by
              rw [HF.out, show z.toNat = (m + 1) + (z.toNat - (m + 1)) by omega, rdItems_none _ (by rw [rdItems_snoc, HRD.out]; simp only; rw [← HYS.out, HX.out])]
              rfl)
            clear hx
            go_wp2_with fail
            refine (IH.out (n + 1) a1 c1 ys _ (by have := HN.out; omega) hl1 hc1 HB.out).mono ?_
            rintro e w5 ⟨t, sa, sc, q, rfl, hyes, hb5⟩
            rw [HX.out]
            obtain ⟨⟨r0, r1, r2', r3, r4⟩, hfr⟩ := cells_of_block5 (block_below hb5 HS.out.r1)
            have hz5 : w.heap.size < w5.heap.size := World.block_lt_of_cell? _ _ r0
            have HB5 := Lib.hid (HS.out.bel.trans (hb5.mono HS.out.bel.size))
            clear hyes hb5
            go_wp2_with fail
            refine bodyPost_ret (v := .tuple #[.agg #[.int .i64 0, .int .i64 0, .float .f64 0, .string ⟨#[]⟩, .slice none 0 0], .int .i64 0, .bool false]) (by simp [results, Try.results67, go_sem, r0, r1, r2', r3, r4, World.cell?_alloc_past, hz5]) rfl (RetRd.no V.nil rfl HF2.out ?_)
            have hbb := below5 HB5.out (Nat.le_refl _) (.int .i64 0) (.int .i64 0) (.float .f64 0) (.string ⟨#[]⟩) (.slice none 0 0)
            exact hbb.alloc hbb.size _
          | some p =>
            obtain ⟨v, nn⟩ := p
            have HX := Lib.hid hx
            have HRD2 := Lib.hid (show rdItems (rd false d) (m + 1) r2 = some (ps.map Prod.fst ++ [v], k + nn) by
              rw [rdItems_snoc, HRD.out]; simp only; rw [← HYS.out, HX.out])
            have hnn := rd_le _ _ _ _ _ hx
            have hyl : ys.length + k + 2 = N := by rw [HYS.out, List.length_drop]; omega
            clear hx
            go_wp2_with fail
            refine (IH.out (n + 1) a1 c1 ys _ (by have := HN.out; omega) hl1 hc1 HB.out).mono ?_
            rintro e w5 ⟨t, sa, sc, q, rfl, hyes, hb5⟩
            obtain ⟨rfl, rfl, hv⟩ := hyes v nn HX.out
            rw [HX.out]
            have HV := Lib.hid hv
            obtain ⟨⟨o0, o1, o2, o3, o4⟩, hfz⟩ := cells_of_block5 (block_below hb5 HS.out.r2)
            have hf4 := hfz 4
            have hz5 : w.heap.size + 1 < w5.heap.size := World.block_lt_of_cell? _ _ o0
            have HB5 := Lib.hid hb5
            have HAL := Lib.hid (fun o => ((Below.refl w5.heap.size w5).alloc (Nat.le_refl _) o : Below w5.heap.size w5 (w5.alloc o)))
            have HLE := Lib.hid (show (ps.length + 1) * 64 ≤ 140737488351232 by have := HPL.out; omega)
            have HBS := Lib.hid (show w.heap.size + 2 ≤ wr.heap.size by have := HZ1.out; omega)
            clear hv hyes hb5 o0 o1 o2 o3 hfz
            go_wp2_with (at_builtin; refine wpList_appendVB (w5.heap.size + 1) (by simp) rfl _ _ rfl HS.out.own (HB5.out.trans ((HAL.out _).mono HB5.out.size)) HBS.out (HV.out.below (HAL.out _)) rfl rfl HLE.out ?_; intro g cap w8 hown8 hb8 hlt8 hlt8'; have o4' := keepcB hb8 (by omega) (keepc (HAL.out _) o4); have f4' := keepfB hb8 (by omega) (keepf (HAL.out _) hz5 hf4))
            have HO8 := Lib.hid hown8
            have HB8 := Lib.hid (((HS.out.bel.trans (HB5.out.mono HS.out.bel.size)).trans ((HAL.out _).mono (by omega))).trans (hb8.mono (by omega)))
            have HR1 := Lib.hid (block_belowB hb8 (show w.heap.size < w.heap.size + 2 by omega) (block_alloc_old _ (block_below HB5.out HS.out.r1)))
            have HR2 := Lib.hid (block_belowB hb8 (show w.heap.size + 1 < w.heap.size + 2 by omega) (block_alloc_old _ (block_below HB5.out HS.out.r2)))
            clear hown8 hb8 o4 o4' hf4 f4'
            go_roundw
            case rel =>
              refine ⟨m + 1, k + nn, ps ++ [(t, .slice sa t.l.length sc)], some ⟨g, 0, none⟩, cap, by omega, by go_num, by simp; omega, by rw [HRD2.out]; simp, ⟨?_, ?_, ?_, ?_⟩⟩
              · rw [List.length_append]
                exact HO8.out.setCell (show w.heap.size + 1 < w.heap.size + 2 by omega) _
              · exact block_setCell (show w.heap.size ≠ w.heap.size + 1 by omega) HR1.out
              · rw [List.length_append]
                exact block_setCell_self HR2.out
              · exact HB8.out.setCell (show w.heap.size ≤ w.heap.size + 1 by omega) _
            case measure => simp [intOf]; omega
        · have hmz : z.toNat = m := by omega
          have HF2 := Lib.hid (show res = some (V.lst (ps.map Prod.fst), 2 + k) by rw [HF.out, hmz, HRD.out]; rfl)
          have hOL := HS.out.own.list (by have := HPL.out; omega)
          have HOL := Lib.hid hOL
          clear hOL
          go_wp2_with fail
          refine bodyPost_ret (v := .tuple #[.agg #[.int .i64 4, .int .i64 0, .float .f64 0, .string ⟨#[]⟩, .slice oa ps.length oc], .int .i64 (2 + (k : Int)), .bool true]) (by simp [results, Try.results67, go_sem, r0, r1, r2', r3, r4]) rfl ?_
          refine RetRd.lst (ps.map Prod.fst) oa ps.length oc (2 + k) _ (by simp) (by omega) HF2.out ?_ (below5 HS.out.bel (Nat.le_refl _) _ _ _ _ _)
          exact HOL.out.keep (fun b hD _ => heap5 _ _ _ _ _ _ (fun e => by subst e; omega)) (fun b hD _ => by omega)

theorem read1_c : ∀ d : Nat, d ≤ 9 → ReadC1 d
  | 0, _ => fun n a c zs w hn hl hc hz => read1_none 0 n a c zs w hn hl (.inr rfl)
  | d + 1, hd => fun n a c zs w hn hl hc hz => by
    cases zs with
    | nil => exact read1_none (d + 1) n a c [] w hn hl (.inl rfl)
    | cons z r =>
      by_cases h4 : z = 4
      · subst h4
        exact read1_list d (read1_c d (by omega)) n a c r w (by omega) hn hl hc hz
      · exact read1_flat d n a c z r w hn hl hc hz h4
end Go.Proofs.Ytkhgbbloeeaceaa
