/- Values put: by the reference. -/
import Derived.Test.YtkhgbbloeeaceaaPt
import Derived.Test.YtkhgbbloeeaceaaCk
import Derived.Test.YtkhgbbloeeaceaaR
namespace Go.Proofs.Ytkhgbbloeeaceaa
open Go Go.RowKit
set_option maxRecDepth 16000
attribute [local go_sem ↓] run_store_float

/-- A whole number's 64 bits. -/
def u64N (i : Int) : Nat := (i % 18446744073709551616).toNat
theorem u64N_lt (i : Int) : u64N i < 2 ^ 64 := by unfold u64N; omega
theorem u64N_eq (i : Int) : ((u64N i : Nat) : Int) = IntKind.u64.wrap i := by simp [u64N, IntKind.wrap, IntKind.signed, IntKind.bits]; omega
mutual
/-- A value's bytes. -/
def V.bytes : V → List Int
  | .mk k i f s l => k :: (if k = 1 then beB (u64N i) 8 else if k = 2 then beB (canonN f) 8 else if k = 3 then beB s.size 2 ++ strI s else if k = 4 then ((l.length : Int) % 256) :: V.bytess l else [])
def V.bytess : List V → List Int
  | [] => []
  | t :: ts => V.bytes t ++ V.bytess ts
end
theorem V.bytes_mk (k i f s l) : (V.mk k i f s l).bytes = k :: (if k = 1 then beB (u64N i) 8 else if k = 2 then beB (canonN f) 8 else if k = 3 then beB s.size 2 ++ strI s else if k = 4 then ((l.length : Int) % 256) :: V.bytess l else []) := by rw [V.bytes]
@[simp] theorem V.bytess_nil : V.bytess [] = [] := by rw [V.bytess]
@[simp] theorem V.bytess_cons (t ts) : V.bytess (t :: ts) = t.bytes ++ V.bytess ts := by rw [V.bytess]
theorem V.bytess_append (a b) : V.bytess (a ++ b) = V.bytess a ++ V.bytess b := by
  induction a with
  | nil => simp
  | cons t ts ih => simp [ih]
theorem V.bytess_take (l : List V) (j : Nat) (hj : j < l.length) : V.bytess (l.take (j + 1)) = V.bytess (l.take j) ++ l[j].bytes := by
  rw [List.take_succ_eq_append_getElem hj, V.bytess_append]; simp
theorem V.bytess_le (l : List V) (j : Nat) : (V.bytess (l.take j)).length ≤ (V.bytess l).length := by
  conv => rhs; rw [← List.take_append_drop j l, V.bytess_append, List.length_append]
  omega

theorem at5.grown {w w' : World} {r : Option Nat} (hg : w.grownBy w' r) {b k i f s sl} (hne : some b ≠ r) (h : at5 w b k i f s sl) : at5 w' b k i f s sl := by
  have hlt := World.block_lt_of_cell? w _ h.1
  have e : ∀ n, w'.cell? ⟨b, n, none⟩ = w.cell? ⟨b, n, none⟩ := fun n => hg.cell_far ⟨b, n, none⟩ hlt hne
  exact ⟨by rw [e]; exact h.1, by rw [e]; exact h.2.1, by rw [e]; exact h.2.2.1, by rw [e]; exact h.2.2.2.1, by rw [e]; exact h.2.2.2.2⟩
/-- What lies below the call's blocks stays. -/
theorem VIn.grown {w w' : World} {base : Nat} {sl : Value} (hg : w.grownBy w' (obk base sl)) {t v} (h : VIn (fun b => b < base) w t v) : VIn (fun b => b < base) w' t v :=
  h.keep (fun b hb hlt => hg.block b hlt (obk_lt hb)) (fun _ hb _ => hb)
theorem EIn.grown {w w' : World} {base : Nat} {sl : Value} (hg : w.grownBy w' (obk base sl)) {l b o} (h : EIn (fun b => b < base) w b o l) : EIn (fun b => b < base) w' b o l :=
  h.keep (fun b hb hlt => hg.block b hlt (obk_lt hb)) (fun _ hb _ => hb)

theorem Ap.far {w w' base sl sl' zs} (h : Ap w w' base sl sl' zs) {b : Nat} (hb : b < w.heap.size) (hne : some b ≠ obk base sl) : some b ≠ obk base sl' := fun e => by
  obtain ⟨e1, e2⟩ := obk_some.1 e.symm
  rcases h.at_ b e1 with e3 | e3
  · exact hne (obk_some.2 ⟨e3, e2⟩).symm
  · omega

def Put1C (x : V) : Prop := ∀ (base : Nat) (bl : Value) (zs : List Int) (w : World) (sl : Value), Bs w base bl zs → base ≤ w.heap.size → zs.length + x.bytes.length ≤ 140737488000000 → x.odd = false → VIn (fun b => b < base) w x sl →
  Calls Try.prog 62 #[bl, .agg #[.int .i64 x.k, .int .i64 x.i, .float .f64 x.f, .string x.s, sl]] w (RetB w base bl (zs ++ x.bytes))

set_option maxHeartbeats 2000000 in
theorem put1_c (t : V) : Put1C t := by
  induction t using V.induct with
  | h k i f s l ih =>
  intro base bl zs w sl hbs hbase hlen hodd hv
  obtain ⟨wk, wi, wf, ws, wl, a, c, rfl, hlc, hcm, _, he⟩ := hv.parts
  simp only [V.k_mk, V.i_mk, V.f_mk, V.s_mk]
  have hne : some w.heap.size ≠ obk base bl := fun e => by have := hbs.lt _ (obk_some.1 e.symm).1; omega
  generalize hr : (V.mk k i f s l).bytes = r at hlen ⊢
  rw [V.bytes_mk] at hr
  rw [V.odd_mk] at hodd
  have HR := Lib.hid hr.symm
  have IH := Lib.hid ih
  have WK := Lib.hid wk
  have WI := Lib.hid wi
  have WF := Lib.hid wf
  have HV := Lib.hid he
  have HODD := Lib.hid hodd
  have HBS := Lib.hid (fun o o' => ((hbs.below ((Below.refl _ w).alloc (Nat.le_refl _) o)).below ((Below.refl _ _).alloc (Nat.le_refl _) o')))
  have HBB := Lib.hid (fun o o' => (((Below.refl w.heap.size w).alloc (Nat.le_refl _) o).alloc (by simp) o' : Below w.heap.size w ((w.alloc o).alloc o')))
  have HAP := Lib.hid (fun o o' => ((Ap.refl hbs).below ((Below.refl _ w).alloc (Nat.le_refl _) o)).below ((Below.refl _ _).alloc (Nat.le_refl _) o'))
  have HAT : Hid (∀ o w1 sl1 zs1, Ap ((w.alloc (.cells #[.int .i64 k, .int .i64 i, .float .f64 f, .string s, .slice a l.length c] 43)).alloc o) w1 base bl sl1 zs1 → at5 w1 w.heap.size k i f s (.slice a l.length c)) :=
    Lib.hid fun o w1 sl1 zs1 h => (at5.new.keep ((Below.refl _ _).alloc (Nat.le_refl _) o)).grown h.grew hne
  have HL := Lib.hid (show zs.length + 1 ≤ 140737488355328 ∧ base ≤ w.heap.size + 1 + 1 by rw [← hr] at hlen; simp at hlen; omega)
  have HNE := Lib.hid hne
  clear ih hv wk wi wf he hodd hr hbs hne
  have k05 : 0 ≤ k ∧ k ≤ 4 := by
    have := HODD.out
    by_cases h : k < 0 ∨ 4 < k
    · rw [if_pos h] at this; cases this
    · omega
  rcases (show k = 0 ∨ k = 1 ∨ k = 2 ∨ k = 3 ∨ k = 4 by omega) with rfl | rfl | rfl | rfl | rfl
  · have HF := Lib.hid (show r = [0] by rw [HR.out]; rfl)
    go_enter Try.func62, Try.ntmps62
    go_wp2_with (at_builtin; (refine wpList_append_bs _ rfl _ _ rfl base bl zs [0] rfl (HBS.out _ _) ⟨w.heap.size + 1, 0, none⟩ 1 1 rfl rfl (World.news_of_block (block_alloc_at _ (by simp))) (by decide) HL.out.1 (by simpa using HL.out.2) ?_; intro g cap w1 hap1; obtain ⟨c0, c1, c2, c3, c4⟩ := HAT.out _ _ _ _ hap1))
    have HA1 := Lib.hid hap1
    have HN1 := Lib.hid (hap1.far (by simp; omega) HNE.out)
    have hba1 : base ≤ w1.heap.size := by have := hap1.grew.size; simp at this; omega
    have hz1 : w.heap.size < w1.heap.size := World.block_lt_of_cell? w1 _ c0
    clear hap1
    go_ret
    exact ⟨_, rfl, by rw [HF.out]; exact (HAP.out _ _).trans HA1.out⟩
  · have HF := Lib.hid (show r = 1 :: beB (u64N i) 8 by rw [HR.out]; rfl)
    have HL2 := Lib.hid (show (zs ++ [1]).length ≤ 140737488355000 by rw [HF.out] at hlen; simp at hlen ⊢; omega)
    go_enter Try.func62, Try.ntmps62
    go_wp2_with (at_builtin; (refine wpList_append_bs _ rfl _ _ rfl base bl zs [1] rfl (HBS.out _ _) ⟨w.heap.size + 1, 0, none⟩ 1 1 rfl rfl (World.news_of_block (block_alloc_at _ (by simp))) (by decide) HL.out.1 (by simpa using HL.out.2) ?_; intro g cap w1 hap1; obtain ⟨c0, c1, c2, c3, c4⟩ := HAT.out _ _ _ _ hap1))
    have HA1 := Lib.hid hap1
    have HN1 := Lib.hid (hap1.far (by simp; omega) HNE.out)
    have hba1 : base ≤ w1.heap.size := by have := hap1.grew.size; simp at this; omega
    have hz1 : w.heap.size < w1.heap.size := World.block_lt_of_cell? w1 _ c0
    clear hap1
    rw [← u64N_eq i]
    refine (putU1_c base _ (zs ++ [1]) (u64N i) (u64N_lt i) 8 _ HA1.out.bs hba1 HL2.out).mono ?_
    rintro e w2 ⟨sl2, rfl, hap2⟩
    have HA2 := Lib.hid hap2
    clear hap2
    go_wp2_with fail
    go_ret
    refine ⟨_, rfl, ?_⟩
    have := (HAP.out _ _).trans (HA1.out.trans HA2.out)
    rw [HF.out, show zs ++ 1 :: beB (u64N i) 8 = zs ++ [1] ++ beB (u64N i) (nOf 8) by simp [nOf]]
    exact this
  · have HF := Lib.hid (show r = 2 :: beB (canonN f) 8 by rw [HR.out]; rfl)
    have HL2 := Lib.hid (show (zs ++ [2]).length ≤ 140737488355000 by rw [HF.out] at hlen; simp at hlen ⊢; omega)
    go_enter Try.func62, Try.ntmps62
    go_wp2_with (at_builtin; (refine wpList_append_bs _ rfl _ _ rfl base bl zs [2] rfl (HBS.out _ _) ⟨w.heap.size + 1, 0, none⟩ 1 1 rfl rfl (World.news_of_block (block_alloc_at _ (by simp))) (by decide) HL.out.1 (by simpa using HL.out.2) ?_; intro g cap w1 hap1; obtain ⟨c0, c1, c2, c3, c4⟩ := HAT.out _ _ _ _ hap1))
    have HA1 := Lib.hid hap1
    have HN1 := Lib.hid (hap1.far (by simp; omega) HNE.out)
    have hba1 : base ≤ w1.heap.size := by have := hap1.grew.size; simp at this; omega
    have hz1 : w.heap.size < w1.heap.size := World.block_lt_of_cell? w1 _ c0
    clear hap1
    refine (bits1_c _ _).mono ?_
    rintro e w' ⟨rfl, rfl⟩
    go_wp2_with fail
    refine (putU1_c base _ (zs ++ [2]) (canonN f) (canonN_lt WF.out) 8 _ HA1.out.bs hba1 HL2.out).mono ?_
    rintro e w2 ⟨sl2, rfl, hap2⟩
    have HA2 := Lib.hid hap2
    clear hap2
    go_wp2_with fail
    go_ret
    refine ⟨_, rfl, ?_⟩
    have := (HAP.out _ _).trans (HA1.out.trans HA2.out)
    rw [HF.out, show zs ++ 2 :: beB (canonN f) 8 = zs ++ [2] ++ beB (canonN f) (nOf 8) by simp [nOf]]
    exact this
  · have HF := Lib.hid (show r = 3 :: (beB s.size 2 ++ strI s) by rw [HR.out]; rfl)
    have HL2 := Lib.hid (show (zs ++ [3]).length ≤ 140737488355000 by rw [HF.out] at hlen; simp at hlen ⊢; omega)
    have HL3 := Lib.hid (show (zs ++ [3] ++ beB s.size (nOf 2)).length + s.size ≤ 140737488355328 by rw [HF.out] at hlen; simp [beB_length, strI_length, nOf2] at hlen ⊢; omega)
    go_enter Try.func62, Try.ntmps62
    go_wp2_with (at_builtin; (refine wpList_append_bs _ rfl _ _ rfl base bl zs [3] rfl (HBS.out _ _) ⟨w.heap.size + 1, 0, none⟩ 1 1 rfl rfl (World.news_of_block (block_alloc_at _ (by simp))) (by decide) HL.out.1 (by simpa using HL.out.2) ?_; intro g cap w1 hap1; obtain ⟨c0, c1, c2, c3, c4⟩ := HAT.out _ _ _ _ hap1))
    have HA1 := Lib.hid hap1
    have HN1 := Lib.hid (hap1.far (by simp; omega) HNE.out)
    have hba1 : base ≤ w1.heap.size := by have := hap1.grew.size; simp at this; omega
    have hz1 : w.heap.size < w1.heap.size := World.block_lt_of_cell? w1 _ c0
    clear hap1
    refine wp_region_held_drew (S := fun w' => at5 w' w.heap.size 3 i f s (.slice a l.length c)) (by kernel_rfl) (at5.keep (Below.refl _ _).drew ⟨c0, c1, c2, c3, c4⟩) (fun hT => ?_)
    refine H_take 0 hT rfl (by kernel_rfl) (by kernel_rfl) (by kernel_rfl) (fun _ _ _ h => h) (by rfl) (by (intro w' hw'; (try dsimp only at hw'); go_simp; try with_reducible rfl)) ?_
    try simp only [Act.put, List.setIfInBounds_toArray, List.set_cons_zero, List.set_cons_succ]
    refine H_take 1 hT rfl (by kernel_rfl) (by kernel_rfl) (by kernel_rfl) (fun _ _ _ h => h) (by rfl) (by (intro w' hw'; (try dsimp only at hw'); go_simp; try with_reducible rfl)) ?_
    try simp only [Act.put, List.setIfInBounds_toArray, List.set_cons_zero, List.set_cons_succ]
    refine H_take 2 hT rfl (by kernel_rfl) (by kernel_rfl) (by kernel_rfl) (fun _ _ _ h => h) (by rfl) (by (intro w' hw'; (try dsimp only at hw'); go_simp; try with_reducible rfl)) ?_
    try simp only [Act.put, List.setIfInBounds_toArray, List.set_cons_zero, List.set_cons_succ]
    refine H_take 3 hT rfl (by kernel_rfl) (by kernel_rfl) (by kernel_rfl) (fun _ _ _ h => h) (by rfl) (by (intro w' hw'; (try dsimp only at hw'); go_simp; try with_reducible rfl)) ?_
    try simp only [Act.put, List.setIfInBounds_toArray, List.set_cons_zero, List.set_cons_succ]
    refine H_take 4 hT rfl (by kernel_rfl) (by kernel_rfl) (by kernel_rfl) (fun _ _ _ h => h) (by rfl) (by (intro w' hw'; (try dsimp only at hw'); go_simp; try with_reducible rfl)) ?_
    try simp only [Act.put, List.setIfInBounds_toArray, List.set_cons_zero, List.set_cons_succ]
    refine H_take 6 hT rfl (by kernel_rfl) (by kernel_rfl) (by kernel_rfl) (fun _ _ _ h => h) (by rfl) (by (intro w' hw'; (try dsimp only at hw'); go_simp; try with_reducible rfl)) ?_
    try simp only [Act.put, List.setIfInBounds_toArray, List.set_cons_zero, List.set_cons_succ]
    refine H_take 7 hT rfl (by kernel_rfl) (by kernel_rfl) (by kernel_rfl) (fun _ _ _ h => h) (by rfl) (by (intro w' hw'; (try dsimp only at hw'); go_simp; try with_reducible rfl)) ?_
    try simp only [Act.put, List.setIfInBounds_toArray, List.set_cons_zero, List.set_cons_succ]
    refine H_one 5 rfl (by kernel_rfl) (fun K hK => ?_)
    rw [if_pos (by rfl)]
    go_simp
    rw [show IntKind.u64.wrap (s.size : Int) = (s.size : Int) by simp [IntKind.wrap, IntKind.signed, IntKind.bits]; omega]
    with_reducible refine (putU1_c base _ (zs ++ [3]) s.size (by omega) 2 _ (HA1.out.below (Below.refl _ _).drew).bs (Nat.le_trans hba1 (Nat.le_refl _)) HL2.out).mono ?_
    rintro e w2 ⟨sl2, rfl, hap2⟩
    have HA2 := Lib.hid hap2
    have HN2 := Lib.hid (hap2.far hz1 HN1.out)
    refine hK _ _ (hT.grown hap2.grew HN1.out) (fun hT2 => ?_)
    clear hT hap2 hK
    try simp only [Act.put, List.setIfInBounds_toArray, List.set_cons_zero, List.set_cons_succ]
    refine H_one 8 rfl (by kernel_rfl) (fun K hK => ?_)
    rw [if_pos (by rfl)]
    refine wp_append_bs_str _ _ _ rfl base sl2 (zs ++ [3] ++ beB s.size (nOf 2)) rfl HA2.out.bs s rfl HL3.out (Nat.le_trans hba1 HA2.out.grew.size) ?_
    intro sl3 w3 hap3
    have HA3 := Lib.hid hap3
    refine hK _ _ (hT2.grown hap3.grew HN2.out) (fun hT3 => ?_)
    try simp only [Act.put, List.setIfInBounds_toArray, List.set_cons_zero, List.set_cons_succ]
    refine H_take 9 hT3 rfl (by kernel_rfl) (by kernel_rfl) (by kernel_rfl) (fun _ _ _ h => h) (by rfl) (by (intro w' hw'; (try dsimp only at hw'); go_simp; try with_reducible rfl)) ?_
    try simp only [Act.put, List.setIfInBounds_toArray, List.set_cons_zero, List.set_cons_succ]
    refine wpAnyH_done (by kernel_rfl) ?_ _
    clear hT2 hT3 hap3 hK c0 c1 c2 c3 c4
    go_wp2_with fail
    go_ret
    refine ⟨_, rfl, ?_⟩
    have := (HAP.out _ _).trans ((HA1.out.below (Below.refl _ _).drew).trans (HA2.out.trans HA3.out))
    rw [HF.out, show zs ++ 3 :: (beB s.size 2 ++ strI s) = zs ++ [3] ++ beB s.size (nOf 2) ++ strI s by simp [nOf2]]
    exact this
  · have HF := Lib.hid (show r = 4 :: ((l.length : Int) % 256) :: V.bytess l by rw [HR.out]; rfl)
    have HO := Lib.hid (show V.odds l = false from HODD.out)
    have HL2 := Lib.hid (show (zs ++ [4]).length + 1 ≤ 140737488355328 by rw [HF.out] at hlen; simp at hlen ⊢; omega)
    have HLA := Lib.hid (show zs.length + 2 + (V.bytess l).length ≤ 140737488000000 by rw [HF.out] at hlen; simp at hlen ⊢; omega)
    go_enter Try.func62, Try.ntmps62
    go_wp2_with (first | (at_builtin; (refine wpList_append_bs _ rfl (.tmp 15) (.tmp 18) rfl base bl zs [4] rfl (HBS.out _ _) ⟨w.heap.size + 1, 0, none⟩ 1 1 rfl rfl (World.news_of_block (block_alloc_at _ (by simp))) (by decide) HL.out.1 (by simpa using HL.out.2) ?_; intro g cap w1 hap1; obtain ⟨c0, c1, c2, c3, c4⟩ := HAT.out _ _ _ _ hap1; have hba1 : base ≤ w1.heap.size + 1 := (by have := hap1.grew.size; simp at this; omega))) | (at_builtin; (refine wpList_append_bs _ rfl (.tmp 48) (.tmp 53) rfl base (.slice (some ⟨g, 0, none⟩) (zs.length + 1) cap) (zs ++ [4]) [(l.length : Int) % 256] rfl (hap1.below ((Below.refl _ _).alloc (Nat.le_refl _) _)).bs ⟨w1.heap.size, 0, none⟩ 1 1 rfl rfl (World.news_of_block (heap_alloc_new w1 _)) (by decide) HL2.out (by simpa using hba1) ?_; intro g2 cap2 w2 hap2)))
    have HN1 := Lib.hid (hap1.far (by simp; omega) HNE.out)
    have hap2' := (hap1.below ((Below.refl _ _).alloc (Nat.le_refl _) (.cells #[.int .u8 ((l.length : Int) % 256)] 5))).trans hap2
    have hat2 : at5 w2 w.heap.size 4 i f s (.slice a l.length c) := HAT.out _ _ _ _ hap2'
    have hne2 : some w.heap.size ≠ obk base (.slice (some ⟨g2, 0, none⟩) ((zs ++ [4]).length + 1) cap2) := hap2'.far (by simp; omega) HNE.out
    have htot := (HAP.out _ _).trans hap2'
    have HS := Lib.hid (And.intro htot (And.intro hat2 hne2))
    clear hap1 hap2 hap2' hat2 hne2 htot c0 c1 c2 c3 c4
    go_loopw [0, 6] (fun b j wr => ∃ m : Nat, m ≤ l.length ∧ j = .int .i64 m ∧ Ap w wr base bl b (zs ++ [4] ++ [(l.length : Int) % 256] ++ V.bytess (l.take m)) ∧ at5 wr w.heap.size 4 i f s (.slice a l.length c) ∧ some w.heap.size ≠ obk base b) (fun _ j _ => l.length - (intOf j).toNat)
    case atStart => exact ⟨0, by omega, rfl, by simpa using HS.out.1, HS.out.2.1, by simpa using HS.out.2.2⟩
    case round =>
      obtain ⟨m, hm, rfl, hap, h5, hne⟩ := hrel
      obtain ⟨c0, c1, c2, c3, c4⟩ := id h5
      have HA := Lib.hid hap
      have H5 := Lib.hid (And.intro h5 hne)
      by_cases hlt : m < l.length
      · obtain ⟨b1, o1, rfl, he1⟩ := HV.out.resolve_left (fun e => by simp [e] at hlt)
        have HE := Lib.hid (he1.grown hap.grew)
        obtain ⟨hD, sa, sc, e0, e1, e2, e3, e4, hv⟩ := HE.out.get hlt
        have HVV := Lib.hid hv
        have HX := Lib.hid (show V.odd l[m] = false by
          have := HO.out
          rw [V.odds_any] at this
          simpa using List.any_eq_false.1 this l[m] (List.getElem_mem hlt))
        have HLM := Lib.hid (show (zs ++ [4] ++ [(l.length : Int) % 256] ++ V.bytess (l.take m)).length + (V.bytes l[m]).length ≤ 140737488000000 by
          have h1 := V.bytess_le l (m + 1)
          rw [V.bytess_take l m hlt, List.length_append] at h1
          have := HLA.out
          simp at h1 ⊢; omega)
        have HBS2 := Lib.hid (show base ≤ wr.heap.size from Nat.le_trans hbase hap.grew.size)
        clear hv hap h5 hne he1
        go_wp2_with fail
        refine (IH.out _ (List.getElem_mem _) base _ _ _ _ HA.out.bs HBS2.out HLM.out HX.out HVV.out).mono ?_
        rintro e w3 ⟨sl3, rfl, hap3⟩
        have HA3 := Lib.hid hap3
        have HZ := Lib.hid (World.block_lt_of_cell? wr _ c0)
        clear hap3 c0 c1 c2 c3 c4 e0 e1 e2 e3 e4
        go_wp2_with fail
        go_roundw
        case rel => exact ⟨m + 1, by omega, by go_num, by rw [V.bytess_take l m hlt, ← List.append_assoc]; exact HA.out.trans HA3.out, H5.out.1.grown HA3.out.grew H5.out.2, HA3.out.far HZ.out H5.out.2⟩
        case measure => simp [intOf]; omega
      · have hm' : m = l.length := by omega
        clear hap h5 hne
        go_wp2_with fail
        go_ret
        refine ⟨_, rfl, ?_⟩
        have := HA.out
        rw [hm', List.take_length] at this
        rw [HF.out, show zs ++ 4 :: (l.length : Int) % 256 :: V.bytess l = zs ++ [4] ++ [(l.length : Int) % 256] ++ V.bytess l by simp]
        exact this
end Go.Proofs.Ytkhgbbloeeaceaa
