/- A reply is put. -/
import Derived.Test.YtbncfpbaifnikaaP
namespace Go.Proofs.Ytbncfpbaifnikaa
open Go Go.RowKit
attribute [local go_sem ↓] run_store_float

theorem alloc_below (w : World) (o : Obj) : Below w.heap.size w (w.alloc o) := (Below.refl _ _).alloc (Nat.le_refl _) _

/-- Behind Put: what it told, and the vote. -/
def PutPost (w : World) (vb : Nat) (v : Vt) (wa la : Value) (b : Bool) (e : Ending) (w' : World) : Prop :=
  ∃ wa' la', e = .returned (.bool b) ∧ VoteIn w' vb v wa' la' ∧ VFr w w' vb wa la wa' la'

set_option maxHeartbeats 2000000 in
theorem put_ok (vb : Nat) (v : Vt) (wa la : Value) (x : Int) (r : Rp) (w : World) (h : VoteIn w vb v wa la) (hid : r.c = v.c ∧ r.s = v.s ∧ r.n = v.e) (hr : r.ok) (hk : r.k ≠ 4) (hx0 : 0 ≤ x) (hxn : x < v.n) (hx : x ∉ v.who)
    (hn : 1 ≤ v.n ∧ v.n ≤ 7) (hlen : v.who.length ≤ 50 ∧ v.l.length ≤ 50) (hok : ∀ y ∈ v.l, y.ok) :
    Calls Try.prog 14 #[.pointer (some ⟨vb, 0, none⟩), .int .i64 x, r.val] w (PutPost w vb (v.put x r) wa la true) := by
  obtain ⟨a1, c1, hwa⟩ := h.wa
  obtain ⟨a2, c2, hla⟩ := h.la
  obtain ⟨e1, e2, e3⟩ := hid
  have H := Lib.hid h
  have HWC := Lib.hid (h.whoCells hwa)
  have hvb := h.lt
  obtain ⟨⟨v0, v1, v2, v3, v4, v5, v6, v7⟩, hfz⟩ := h.own
  subst hwa hla
  rw [← e1] at v0; rw [← e2] at v1; rw [← e3] at v2
  have hd1 : decide (x < 0) = false := by simpa using hx0
  have hd2 : decide (v.n ≤ x) = false := by simpa using hxn
  have hxd : decide (x ∈ v.who) = false := by simpa using hx
  have HB0 := Lib.hid (alloc_below w (.cells #[.int .u32 r.c, .int .u32 r.s, .int .u16 r.n, .int .i64 r.e, .int .i64 r.k, .int .i64 r.i, .float .f64 r.f, .string r.t, .slice none 0 0] 32))
  have HE := Lib.hid (And.intro e1 (And.intro e2 e3))
  obtain ⟨ii, hi, hz0, hz1, hz2⟩ := info_parts infoI
  have HI := Lib.hid (And.intro hi (And.intro hz0 (And.intro hz1 hz2)))
  obtain ⟨ir, ji, jz0, jz1, jz2⟩ := info_parts infoR
  have HIR := Lib.hid (And.intro ji (And.intro jz0 (And.intro jz1 jz2)))
  clear e1 e2 e3 h hx hi hz0 hz1 hz2 ji jz0 jz1 jz2
  go_enter Try.func14, Try.ntmps14
  go_wp2_with fail
  go_region_held3 (fun w' => Held (w.alloc (.cells #[.int .u32 r.c, .int .u32 r.s, .int .u16 r.n, .int .i64 r.e, .int .i64 r.k, .int .i64 r.i, .float .f64 r.f, .string r.t, .slice none 0 0] 32)) w') (first | assumption | exact Held.start | exact Held.keep hb5 (by assumption))
    (first | (go_at_call 29; refine (contains_c _ _ v.who x _ (by omega) ?_).mono ?_; (intro j hj; obtain ⟨b, o, e, hc⟩ := HWC.out j hj; exact ⟨b, o, e, keepc ((by assumption : Held _ _).2) (keepc HB0.out hc)⟩); rintro e w5 ⟨rfl, rfl⟩))
  have H1 := Lib.hid (H.out.below HB0.out)
  go_wp2_with (at_builtin; refine wpList_append_lies _ rfl _ _ 60 rfl (vb + 1) 3 ii _ 1 8 Try.underlying60 HI.out.1 HI.out.2.1 HI.out.2.2.1 HI.out.2.2.2 rfl (by omega) (.slice a1 v.who.length c1) v.who.length (v.who.map (Value.int .i64)) rfl (by exact H1.out.2.1.alloc _) ⟨w.heap.size + 1, 0, none⟩ 1 1 [.int .i64 x] rfl rfl (by exact World.news_of_block (block_alloc_at _ (by simp))) (by intro u hu; simp at hu; subst hu; rfl) (by omega) (by unfold maxLen; omega) (by omega) (by simp; omega) (w.heap.size + 1 + 1) (by simp) ?_; intro g cap w2 hown2 hgrow2 hat2 hlt2; have hb2 : w2.heap[vb]? = some (.cells (vcells v (.slice a1 v.who.length c1) (.slice a2 v.l.length c2)) 63) := by { rw [hgrow2.block vb (by simp; omega) (fun e => H.out.block_set.1 e.symm)]; exact block_alloc_old _ H1.out.1 }; obtain ⟨⟨_, _, _, k3, k4, k5, k6, k7⟩, kf⟩ := own_of_block hb2; have HG := Lib.hid (And.intro hown2 (And.intro hgrow2 hat2)); have HK := Lib.hid hb2; clear hown2 hgrow2 hat2 hb2)
  have h3 := H1.out.addWho (w1 := (w.alloc (.cells #[.int .u32 r.c, .int .u32 r.s, .int .u16 r.n, .int .i64 r.e, .int .i64 r.k, .int .i64 r.i, .float .f64 r.f, .string r.t, .slice none 0 0] 32)).drew) (Below.refl _ _).drew HG.out.1 HG.out.2.1 (by simpa using HG.out.2.2)
  generalize hw3 : w2.setCell { block := vb, off := 5 } (.slice (some { block := g, off := 0 }) (v.who.length + 1) cap) = w3 at h3 ⊢
  have H3 := Lib.hid h3
  have H9 := Lib.hid (h3.2.at9 at9.new (Nat.ne_of_gt hvb) (fun e => by have := (H.out.2.1.lt _ e).2; omega) (fun e => by have := (H.out.2.2.1.lt _ e).2; omega))
  obtain ⟨⟨_, _, _, m3, m4, m5, m6, m7⟩, mf⟩ := h3.1.own
  have m6' := m6
  have hz3 : w.heap.size < w3.heap.size := World.block_lt_of_cell? _ _ H9.out.1
  clear h3 hw3 k3 k4 k5 k6 k7 kf v0 v1 v2 v3 v4 v5 v6 v7 hfz
  refine wp_region_T (fun w' => at9 w' w.heap.size r ∧ w'.cell? ⟨vb, 6, none⟩ = some (.slice a2 v.l.length c2)) 17 (by kernel_rfl) ⟨H9.out, m6⟩ (fun hT => ?_)
  refine T_take 0 hT rfl (by kernel_rfl) (by kernel_rfl) (by kernel_rfl) (by kernel_rfl) (fun _ _ _ h => h) (by rfl) (by (intro w' hw'; (try dsimp only at hw'); go_simp; try with_reducible rfl)) ?_
  try simp only [Act.put, List.setIfInBounds_toArray, List.set_cons_zero, List.set_cons_succ]
  refine T_take 1 hT rfl (by kernel_rfl) (by kernel_rfl) (by kernel_rfl) (by kernel_rfl) (fun _ _ _ h => h) (by rfl) (by (intro w' hw'; (try dsimp only at hw'); go_simp; try with_reducible rfl)) ?_
  try simp only [Act.put, List.setIfInBounds_toArray, List.set_cons_zero, List.set_cons_succ]
  refine T_take 2 hT rfl (by kernel_rfl) (by kernel_rfl) (by kernel_rfl) (by kernel_rfl) (fun _ _ _ h => h) (by rfl) (by (intro w' hw'; (try dsimp only at hw'); go_simp; try with_reducible rfl)) ?_
  try simp only [Act.put, List.setIfInBounds_toArray, List.set_cons_zero, List.set_cons_succ]
  refine T_take 3 hT rfl (by kernel_rfl) (by kernel_rfl) (by kernel_rfl) (by kernel_rfl) (fun _ _ _ h => h) (by rfl) (by (intro w' hw'; (try dsimp only at hw'); go_simp; try with_reducible rfl)) ?_
  try simp only [Act.put, List.setIfInBounds_toArray, List.set_cons_zero, List.set_cons_succ]
  refine T_take 4 hT rfl (by kernel_rfl) (by kernel_rfl) (by kernel_rfl) (by kernel_rfl) (fun _ _ _ h => h) (by rfl) (by (intro w' hw'; (try dsimp only at hw'); go_simp; try with_reducible rfl)) ?_
  try simp only [Act.put, List.setIfInBounds_toArray, List.set_cons_zero, List.set_cons_succ]
  refine T_take 5 hT rfl (by kernel_rfl) (by kernel_rfl) (by kernel_rfl) (by kernel_rfl) (fun _ _ _ h => h) (by rfl) (by (intro w' hw'; (try dsimp only at hw'); go_simp; try with_reducible rfl)) ?_
  try simp only [Act.put, List.setIfInBounds_toArray, List.set_cons_zero, List.set_cons_succ]
  refine T_take 6 hT rfl (by kernel_rfl) (by kernel_rfl) (by kernel_rfl) (by kernel_rfl) (fun _ _ _ h => h) (by rfl) (by (intro w' hw'; (try dsimp only at hw'); go_simp; try with_reducible rfl)) ?_
  try simp only [Act.put, List.setIfInBounds_toArray, List.set_cons_zero, List.set_cons_succ]
  refine T_take 7 hT rfl (by kernel_rfl) (by kernel_rfl) (by kernel_rfl) (by kernel_rfl) (fun _ _ _ h => h) (by rfl) (by (intro w' hw'; (try dsimp only at hw'); go_simp; try with_reducible rfl)) ?_
  try simp only [Act.put, List.setIfInBounds_toArray, List.set_cons_zero, List.set_cons_succ]
  refine T_take 8 hT rfl (by kernel_rfl) (by kernel_rfl) (by kernel_rfl) (by kernel_rfl) (fun _ _ _ h => h) (by rfl) (by (intro w' hw'; (try dsimp only at hw'); go_simp; try with_reducible rfl)) ?_
  try simp only [Act.put, List.setIfInBounds_toArray, List.set_cons_zero, List.set_cons_succ]
  refine T_take 9 hT rfl (by kernel_rfl) (by kernel_rfl) (by kernel_rfl) (by kernel_rfl) (fun _ _ _ h => h) (by rfl) (by (intro w' hw'; (try dsimp only at hw'); go_simp; try with_reducible rfl)) ?_
  try simp only [Act.put, List.setIfInBounds_toArray, List.set_cons_zero, List.set_cons_succ]
  refine T_take 10 hT rfl (by kernel_rfl) (by kernel_rfl) (by kernel_rfl) (by kernel_rfl) (fun _ _ _ h => h) (by rfl) (by (intro w' hw'; (try dsimp only at hw'); go_simp; try with_reducible rfl)) ?_
  try simp only [Act.put, List.setIfInBounds_toArray, List.set_cons_zero, List.set_cons_succ]
  refine T_one 11 rfl (by kernel_rfl) (by decide) (fun K hK => ?_)
  rw [if_pos (by rfl)]
  go_simp
  refine (clone_flat r.k r.i r.f r.t _ _ _ _ hk).mono ?_
  rintro e w5 ⟨rfl, hb5⟩
  rw [cf_cfR]
  have HB5 := Lib.hid ((Below.refl _ w3).drew.trans hb5)
  refine hK _ _ ⟨hT.1.keep hb5, keepc hb5 hT.2⟩ (fun hT5 => ?_)
  try simp only [Act.put, List.setIfInBounds_toArray, List.set_cons_zero, List.set_cons_succ]
  clear hT hb5 hK
  refine T_take 12 hT5 rfl (by kernel_rfl) (by kernel_rfl) (by kernel_rfl) (by kernel_rfl) (fun _ _ _ h => h) (by rfl) (by (intro w' hw'; (try dsimp only at hw'); go_simp; try with_reducible rfl)) ?_
  try simp only [Act.put, List.setIfInBounds_toArray, List.set_cons_zero, List.set_cons_succ]
  refine T_one 13 rfl (by kernel_rfl) (by decide) (fun K hK => ?_)
  rw [if_pos (by rfl)]
  go_simp
  refine hK _ _ ⟨hT5.1.keep (alloc_below _ _), keepc (alloc_below _ _) hT5.2⟩ (fun hT6 => ?_)
  try simp only [Act.put, List.setIfInBounds_toArray, List.set_cons_zero, List.set_cons_succ]
  clear hK
  refine T_one 14 rfl (by kernel_rfl) (by decide) (fun K hK => ?_)
  refine step_append_lies _ rfl _ _ 61 rfl (vb + 1) 32 ir _ 9 88 Try.underlying61 HIR.out.1 HIR.out.2.1 HIR.out.2.2.1 HIR.out.2.2.2 rfl (by omega) (.slice a2 v.l.length c2) v.l.length (v.l.flatMap Rp.cells) rfl ((H3.out.1.below HB5.out).2.2.1.alloc _) ⟨w5.heap.size, 0, none⟩ 1 1 [.int .u32 r.c, .int .u32 r.s, .int .u16 r.n, .int .i64 r.e, .int .i64 (cfR r).k, .int .i64 (cfR r).i, .float .f64 (cfR r).f, .string (cfR r).t, .slice none 0 0] rfl (by rfl) (World.news_of_block (heap_alloc_new w5 _)) ?h1 (by omega) (by unfold maxLen; omega) (by omega) ?h2 (w5.heap.size + 1) (by simp) ?_
  case h1 => intro u hu; simp only [List.mem_cons, List.not_mem_nil, or_false] at hu; rcases hu with rfl | rfl | rfl | rfl | rfl | rfl | rfl | rfl | rfl <;> rfl
  case h2 => have := HB5.out.size; simp; omega
  intro g2 cap2 w6 hown6 hgrow6 hat6 hlt6
  have hb6 : w6.heap[vb]? = some (.cells (vcells { v with who := v.who ++ [x] } (.slice (some ⟨g, 0, none⟩) (v.who.length + 1) cap) (.slice a2 v.l.length c2)) 63) := by
    rw [hgrow6.block vb (by have := HB5.out.size; simp; omega) (fun e => H.out.block_set.2 e.symm)]
    exact block_alloc_old _ (block_below HB5.out H3.out.1.1)
  have hr6 : ∀ o u, w5.cell? ⟨w.heap.size, o, none⟩ = some u → w6.cell? ⟨w.heap.size, o, none⟩ = some u := fun o u hu => by
    rw [hgrow6.cell_far ⟨w.heap.size, o, none⟩ (by have := HB5.out.size; simp; omega) (fun e => by have := (H.out.2.2.1.lt _ e.symm).2; simp at this)]
    exact keepc (alloc_below _ _) hu
  obtain ⟨⟨_, _, _, n3, n4, n5, n6, n7⟩, nf⟩ := own_of_block hb6
  refine hK _ _ ⟨by obtain ⟨t0, t1, t2, t3, t4, t5, t6, t7, t8⟩ := hT5.1; exact ⟨hr6 _ _ t0, hr6 _ _ t1, hr6 _ _ t2, hr6 _ _ t3, hr6 _ _ t4, hr6 _ _ t5, hr6 _ _ t6, hr6 _ _ t7, hr6 _ _ t8⟩, n6⟩ (fun hT7 => ?_)
  try simp only [Act.put, List.setIfInBounds_toArray, List.set_cons_zero, List.set_cons_succ]
  clear hK
  refine T_one 15 rfl (by kernel_rfl) (by decide) (fun K hK => ?_)
  rw [if_pos (by rfl)]
  go_simp
  refine hK _ _ hT7 (fun hT8 => ?_)
  try simp only [Act.put, List.setIfInBounds_toArray, List.set_cons_zero, List.set_cons_succ]
  clear hK
  refine T_take 16 hT8 rfl (by kernel_rfl) (by kernel_rfl) (by kernel_rfl) (by kernel_rfl) (fun _ _ _ h => h) (by rfl) (by (intro w' hw'; (try dsimp only at hw'); go_simp; try with_reducible rfl)) ?_
  try simp only [Act.put, List.setIfInBounds_toArray, List.set_cons_zero, List.set_cons_succ]
  refine T_last rfl (by kernel_rfl) (by kernel_rfl) (fun K hK => ?_)
  rw [if_pos (by rfl)]
  go_simp
  refine hK _ _ ?_
  have h6 := H3.out.1.addL (x := cfR r) HB5.out (by rw [cells_cfR]; exact hown6) hgrow6 hat6
  generalize hw7 : w6.setCell { block := vb, off := 6 } (.slice (some { block := g2, off := 0 }) (v.l.length + 1) cap2) = w7 at h6 ⊢
  have H7 := Lib.hid h6
  have hF : VFr w w7 vb (.slice a1 v.who.length c1) (.slice a2 v.l.length c2) (.slice (some ⟨g, 0, none⟩) (v.who.length + 1) cap) (.slice (some ⟨g2, 0, none⟩) (v.l.length + 1) cap2) := ((VFr.of_below hvb HB0.out).trans H3.out.2).trans H7.out.2
  have HF := Lib.hid hF
  obtain ⟨⟨_, _, _, q3, q4, q5, q6, q7⟩, qf⟩ := h6.1.own
  have hvb7 : vb < w7.heap.size := h6.1.lt
  clear h6 hw7 hF n3 n4 n5 n6 n7 nf m3 m4 m5 m6 m7 m6' mf hb6 hr6 hown6 hgrow6 hat6 hT5 hT6 hT8 hK
  have hokl : ∀ y ∈ v.l ++ [cfR r], y.ok := fun y hy => by
    rcases List.mem_append.1 hy with hy | hy
    · exact hok y hy
    · simp at hy; subst hy; exact cfR_ok hr
  have HOK := Lib.hid hokl
  clear hokl hok
  cases his : v.is
  · have q7' : w7.cell? { block := vb, off := 7 } = some (.bool false) := by rw [q7, his]
    clear q7
    have HIS := Lib.hid his
    clear his
    go_wp2_with fail
    refine (decide_c vb (some ⟨g2, 0, none⟩) cap2 (v.l ++ [cfR r]) v.n v.p _ (by simp; omega) hn HOK.out (by rw [q6]; simp) q3 q4 (H7.out.1.lCells (a := some ⟨g2, 0, none⟩) (c := cap2) (by simp))).mono ?_
    rintro e w8 ⟨rfl, hb8⟩
    generalize hdd : decR (needI v.p v.n) (v.l ++ [cfR r]) = dd
    obtain ⟨rd, bd⟩ := dd
    have HDD := Lib.hid hdd
    have hv8 := H7.out.1.below hb8
    have hs8 := hv8.setRes rd bd
    have HS8 := Lib.hid hs8
    have HF8 := Lib.hid (HF.out.trans (VFr.of_below hvb7 hb8))
    obtain ⟨⟨_, _, _, s3, s4, s5, s6, s7⟩, sf⟩ := hv8.own
    obtain ⟨t0, t1, t2, t3, t4, t5, t6, t7, t8⟩ := res_of_block hv8.1
    have hvb8 : vb < w8.heap.size := hv8.lt
    clear hdd hv8 hs8 hb8 q3 q4 q5 q6 q7' qf
    go_wp2_with fail
    go_ret
    refine ⟨_, _, rfl, ?_, HF8.out.trans HS8.out.2⟩
    have := HS8.out.1
    simpa [Vt.put, HIS.out, HDD.out] using this
  · have q7' : w7.cell? { block := vb, off := 7 } = some (.bool true) := by rw [q7, his]
    clear q7
    have HIS := Lib.hid his
    clear his
    go_wp2_with fail
    go_ret
    refine ⟨_, _, rfl, ?_, HF.out⟩
    have := H7.out.1
    simpa [Vt.put, HIS.out] using this
end Go.Proofs.Ytbncfpbaifnikaa
