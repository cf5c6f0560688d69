/- The law of majorities: its walk. -/
import Derived.Test.YtbncfpbaifnikaaVp
import Derived.Maps.OwnOps
import Derived.Maps.Views
namespace Go.Proofs.Ytbncfpbaifnikaa
open Go Go.RowKit Go.Maps
attribute [local go_sem ↓] run_store_float

theorem law64 : Keyed Try.prog 2 := int_keyed Try.underlying2
theorem zeroInt (w : World) : (zeroValue 3).run Try.prog w = .ok (.int .i64 0) w := by kernel_rfl

theorem VoteIn.grown {w w' vb v wa la} {row : Option Nat} (h : VoteIn w vb v wa la) (hg : w.grownBy w' row) (h0 : some vb ≠ row) (h1 : wa.ownBlock = none ∨ wa.ownBlock ≠ row) (h2 : la.ownBlock = none ∨ la.ownBlock ≠ row) : VoteIn w' vb v wa la :=
  ⟨(hg.block vb h.lt h0).trans h.1, h.2.1.kept hg h1, h.2.2.1.kept hg h2, h.2.2.2⟩

/-- What the loop holds: the vote, the id at ib, the counts at cb. -/
structure CIn {H : Type} (w : World) (ib cb vb : Nat) (v : Vt) (wa la : Value) (D : DataW H) (m : Nat) : Prop where
  vote : VoteIn w vb v wa la
  i0 : w.cell? ⟨ib, 0, none⟩ = some (.int .u32 1)
  i1 : w.cell? ⟨ib, 1, none⟩ = some (.int .u32 1)
  i2 : w.cell? ⟨ib, 2, none⟩ = some (.int .u16 0)
  map : w.ownsMap Try.prog 2 (plainElem Try.prog 3) cb m D
  is : IsMap D
  ne : ib ≠ vb ∧ cb ≠ vb ∧ ib ≠ cb
  ow : wa.ownBlock ≠ some ib ∧ wa.ownBlock ≠ some cb ∧ la.ownBlock ≠ some ib ∧ la.ownBlock ≠ some cb
theorem CIn.below {H : Type} {w w' ib cb vb v wa la} {D : DataW H} {m} (h : CIn w ib cb vb v wa la D m) (hb : Below w.heap.size w w') : CIn w' ib cb vb v wa la D m :=
  ⟨h.vote.below hb, keepc hb h.i0, keepc hb h.i1, keepc hb h.i2, h.map.kept (grownBy_of_below hb none) (by simp), h.is, h.ne, h.ow⟩

/-- Its numbers. -/
def Xz (zs : List Int) (j : Nat) : Int := zs.getD j 0 % 3
def Counts {H : Type} (D : DataW H) (l : List Int) : Prop := ∀ x, D.atKey (.int .i64 x) (.lit (.int .i64 0)) = .lit (.int .i64 (l.count x))

theorem CIn.store {H : Type} {w w' ib cb vb v wa la} {D : DataW H} {m : Nat} {l : List Int} (h : CIn w ib cb vb v wa la D m) (hc : Counts D l) {x cn : Int}
    (hown : w'.ownsMap Try.prog 2 (plainElem Try.prog 3) cb (m + 1) (D.put (.int .i64 x) (.lit (.int .i64 (wrap64 (cn + 1)))))) (hg : w.grownBy w' (some cb)) (hat : D.atKey (.int .i64 x) (.lit (.int .i64 0)) = .lit (.int .i64 cn)) (hl : l.length ≤ 100) :
    CIn w' ib cb vb v wa la (D.put (.int .i64 x) (.lit (.int .i64 (wrap64 (cn + 1))))) (m + 1) ∧ Counts (D.put (.int .i64 x) (.lit (.int .i64 (wrap64 (cn + 1))))) (l ++ [x]) := by
  obtain ⟨n1, n2, n3⟩ := h.ne
  obtain ⟨o1, o2, o3, o4⟩ := h.ow
  have hil := World.block_lt_of_cell? _ _ h.i0
  have hcell : ∀ o u, w.cell? ⟨ib, o, none⟩ = some u → w'.cell? ⟨ib, o, none⟩ = some u := fun o u hu => (hg.cell_far ⟨ib, o, none⟩ hil (fun e => n3 (by simpa using e))).trans hu
  refine ⟨⟨h.vote.grown hg (fun e => n2 (by simpa using e.symm)) (.inr o2) (.inr o4), hcell _ _ h.i0, hcell _ _ h.i1, hcell _ _ h.i2, hown, h.is.put _ _, h.ne, h.ow⟩, ?_⟩
  have hcn : cn = l.count x := by
    have := (hc x).symm.trans hat
    simpa using this.symm
  have hle := List.count_le_length (a := x) (l := l)
  have hw : wrap64 (cn + 1) = ((l.count x + 1 : Nat) : Int) := by rw [hcn]; unfold wrap64; omega
  intro y
  by_cases hy : y = x
  · subst hy
    rw [atKey_put_same h.is (show WideAt.IsKeyLit (.int .i64 y) from trivial), hw, List.count_append]
    simp
  · rw [atKey_put_other (show (Lit.int .i64 y) ≠ .int .i64 x from fun e => hy (by injection e)), hc y, List.count_append]
    have : List.count y [x] = 0 := List.count_eq_zero_of_not_mem (fun e => hy (by simpa using e))
    rw [this]; rfl

theorem CIn.put {H : Type} {w w' ib cb vb v wa la v' wa' la'} {D : DataW H} {m : Nat} (h : CIn w ib cb vb v wa la D m) (hv : VoteIn w' vb v' wa' la') (hf : VFr w w' vb wa la wa' la') : CIn w' ib cb vb v' wa' la' D m := by
  obtain ⟨n1, n2, n3⟩ := h.ne
  obtain ⟨o1, o2, o3, o4⟩ := h.ow
  have p1 := hf.apart ib (World.block_lt_of_cell? _ _ h.i0) o1 o3
  have p2 := hf.apart cb h.map.lt o2 o4
  refine ⟨hv, hf.cell h.i0 n1 o1 o3, hf.cell h.i1 n1 o1 o3, hf.cell h.i2 n1 o1 o3, ?_, h.is, h.ne, p1.1, p2.1, p1.2, p2.2⟩
  obtain ⟨es, cl, hb, r⟩ := h.map
  exact ⟨es, cl, (hf.same cb (Array.getElem?_eq_some_iff.1 hb).1 n2 o2 o4).trans hb, r⟩
theorem Xz_wf (zs : List Int) (j : Nat) : (Lit.int .i64 (Xz zs j)).wf = true := by
  have h : 0 ≤ Xz zs j ∧ Xz zs j ≤ 2 := by unfold Xz; omega
  generalize Xz zs j = x at h
  simp [Lit.wf, IntKind.min, IntKind.max, IntKind.signed, IntKind.bits]; omega
theorem put_maj {K T : Nat} (hK : 1 ≤ K ∧ K ≤ 7) {zs : List Int} {m : Nat} (hm : m < K) {v : Vt} (hI : MInv K T (Xz zs) m v) {w : World} {vb : Nat} {wa la : Value} (hV : VoteIn w vb v wa la) :
    Calls Try.prog 14 #[.pointer (some ⟨vb, 0, none⟩), .int .i64 (((m + T) % K : Nat) : Int), (rz 1 1 (Xz zs ((m + T) % K))).val] w (PutPost w vb (v.put (((m + T) % K : Nat) : Int) (rz 1 1 (Xz zs ((m + T) % K)))) wa la true) := by
  have hlt : (m + T) % K < K := Nat.mod_lt _ hK.1
  have h1 : v.who.length = m := by rw [hI.who]; simp
  have h2 : v.l.length = m := by rw [hI.l]; simp [ds_length]
  refine put_ok vb v wa la _ (rz 1 1 (Xz zs ((m + T) % K))) w hV ⟨hI.id.1.symm, hI.id.2.1.symm, hI.id.2.2.symm⟩ (rz_ok (Xz_wf _ _)) (show (1 : Int) ≠ 4 by decide) (by omega) (by rw [hI.n]; omega) (hI.fresh hm) (by rw [hI.n]; omega) (by omega) ?_
  intro y hy
  rw [hI.l] at hy
  obtain ⟨x, hx, rfl⟩ := List.mem_map.1 hy
  unfold ds at hx
  obtain ⟨i, _, rfl⟩ := List.mem_map.1 hx
  exact rz_ok (Xz_wf _ _)

theorem look_c {H : Type} {w : World} {D : DataW H} {cb n : Nat} {l : List Int} (h : w.ownsMap Try.prog 2 (plainElem Try.prog 3) cb n D) (hc : Counts D l) (q : Nat) (hq : q ≤ 3) :
    (Instr.lookup 49 (.map (some cb)) (.int .i64 q) false).run Try.prog w = .ok (.int .i64 (l.count (q : Int))) w := by
  have hwf : (Lit.int .i64 (q : Int)).wf = true := by simp [Lit.wf, IntKind.min, IntKind.max, IntKind.signed, IntKind.bits]; omega
  obtain ⟨c, hrun, hat, _⟩ := h.lookup_int law64 Try.underlying49 Try.underlying3 (zeroInt _) (keyOf_int_mk Try.underlying2 hwf)
  have : c = l.count (q : Int) := by
    have := (hc q).symm.trans hat
    simpa using this.symm
  rw [← this]; exact hrun
theorem need_K {K : Nat} (h : 1 ≤ K ∧ K ≤ 7) : nodesI (K : Int) / 2 + 1 = ((K / 2 + 1 : Nat) : Int) := by unfold nodesI; omega
theorem Xz_mem {K T : Nat} {zs : List Int} {m : Nat} {y : Int} (h : 1 ≤ (ds K T (Xz zs) m).count y) : ∃ q : Nat, q < 3 ∧ y = q := by
  have hy : y ∈ ds K T (Xz zs) m := List.count_pos_iff.1 h
  unfold ds at hy
  obtain ⟨i, _, rfl⟩ := List.mem_map.1 hy
  generalize (i + T) % K = j
  refine ⟨(Xz zs j).toNat, ?_, ?_⟩ <;> unfold Xz <;> omega

theorem tmod_cast (m T K : Nat) : ((m : Int) + T).tmod K = (((m + T) % K : Nat) : Int) := by
  rw [Int.tmod_eq_emod_of_nonneg (by omega), Int.natCast_emod, Int.natCast_add]
theorem wrap_T {T : Nat} (h : (0 : Int) ≤ T ∧ (T : Int) ≤ 255) : wrap64 (T : Int) = T := by unfold wrap64; omega
theorem wrap_mT {m T : Nat} (h : (0 : Int) ≤ T ∧ (T : Int) ≤ 255) (hm : m ≤ 7) : wrap64 ((m : Int) + T) = m + T := by unfold wrap64; omega
theorem Xz_at {zs : List Int} {J : Nat} (h : J < zs.length) (h0 : 0 ≤ zs[J]) : wrap64 (zs[J].tmod 3) = Xz zs J := by
  rw [Int.tmod_eq_emod_of_nonneg h0]
  unfold Xz wrap64
  rw [List.getD_eq_getElem?_getD, List.getElem?_eq_getElem h, Option.getD_some]
  omega

set_option maxHeartbeats 1600000 in
theorem voteMajority_c (H : Type) (n : Int) (hn : 0 ≤ n ∧ n ≤ 255) (a : Option Addr) (c : Nat) (zs : List Int) (hl : zs.length ≤ 9223372036854775807) (turn : Int) (ht : 0 ≤ turn ∧ turn ≤ 255) (w : World)
    (hz : ∀ j (hj : j < zs.length), ∃ b o, a = some ⟨b, o, none⟩ ∧ w.cell? ⟨b, o + j, none⟩ = some (.int .u8 zs[j]) ∧ 0 ≤ zs[j] ∧ zs[j] ≤ 255) :
    Calls Try.prog 5 #[.int .u8 n, .slice a zs.length c, .int .u8 turn] w fun x w' => x = .returned (.bool true) ∧ Below w.heap.size w w' := by
  have HZ := Lib.hid hz
  clear hz
  obtain ⟨T, rfl⟩ : ∃ T : Nat, turn = T := ⟨turn.toNat, by omega⟩
  obtain ⟨K, hK1, hK7, hKe⟩ : ∃ K : Nat, 1 ≤ K ∧ K ≤ 7 ∧ wrap64 (wrap64 (n.tmod 7) + 1) = (K : Int) := by
    refine ⟨(n % 7 + 1).toNat, by omega, by omega, ?_⟩
    rw [Int.tmod_eq_emod_of_nonneg hn.1]
    unfold wrap64
    omega
  clear hn
  have HT := Lib.hid ht
  clear ht
  have hmm := @run_makeMap Try.prog
  by_cases hlen : (zs.length : Int) < K
  · go_enter Try.func5, Try.ntmps5
    go_wp2_with fail
    refine (known_c _).mono ?_
    rintro e w1 ⟨rfl, hb1⟩
    go_wp2_with fail
    go_ret
    exact ⟨rfl, hb1⟩
  · have hlen' : (K : Int) ≤ zs.length := by omega
    have hKz : (K : Int) ≠ 0 := by omega
    go_enter Try.func5, Try.ntmps5
    go_wp2_with fail
    refine (known_c _).mono ?_
    rintro e w1 ⟨rfl, hb1⟩
    have HB1 := Lib.hid hb1
    have hz1 := hb1.size
    clear hb1
    go_wp2_with fail
    refine (new_c 1 1 0 _ _ _).mono ?_
    rintro e w2 ⟨rfl, hv2, hb2⟩
    rw [show (w1.alloc (.cells #[.int .u32 1, .int .u32 1, .int .u16 0] 25)).heap.size = w1.heap.size + 1 by simp] at hv2 ⊢
    rw [show nodesI (K : Int) = K by unfold nodesI; omega] at hv2
    have hz2 := hb2.size
    have hv2lt := hv2.lt
    have hI2 : w2.cell? ⟨w1.heap.size, 0, none⟩ = some (.int .u32 1) ∧ w2.cell? ⟨w1.heap.size, 1, none⟩ = some (.int .u32 1) ∧ w2.cell? ⟨w1.heap.size, 2, none⟩ = some (.int .u16 0) := ⟨keepc hb2 (by simp), keepc hb2 (by simp), keepc hb2 (by simp)⟩
    have HB2 := Lib.hid (HB1.out.trans (((alloc_below w1 (.cells #[.int .u32 1, .int .u32 1, .int .u16 0] 25)).trans (hb2.mono (by simp))).mono hz1))
    have HV2 := Lib.hid hv2
    have HI2 := Lib.hid hI2
    clear hb2 hv2 hI2
    go_wp2_with fail
    have hc2 : CIn (H := H) (w2.alloc (.map #[] 0)) w1.heap.size w2.heap.size (w1.heap.size + 1 + 1) ⟨1, 1, 0, K, 1, [], [], false, zeroR⟩ (.slice none 0 0) (.slice none 0 0) (.map []) 0 :=
      ⟨HV2.out.below (alloc_below _ _), keepc (alloc_below _ _) HI2.out.1, keepc (alloc_below _ _) HI2.out.2.1, keepc (alloc_below _ _) HI2.out.2.2, World.ownsMap_made _ _ _ _, isMap_empty, ⟨by omega, by omega, by have := World.block_lt_of_cell? _ _ HI2.out.1; simp at this; omega⟩, by simp [Value.ownBlock]⟩
    have HC2 := Lib.hid hc2
    have HB3 := Lib.hid (HB2.out.trans ((alloc_below w2 (.map #[] 0)).mono HB2.out.size))
    have hcb : w.heap.size ≤ w2.heap.size := HB2.out.size
    clear hc2
    go_loopw [11] (fun j wr => ∃ (m : Nat) (v : Vt) (wa la : Value) (D : DataW H), m ≤ K ∧ j = .int .i64 m ∧ MInv K T (Xz zs) m v ∧ Counts D (ds K T (Xz zs) m) ∧ CIn wr w1.heap.size w2.heap.size (w1.heap.size + 1 + 1) v wa la D m ∧ Below w.heap.size w wr) (fun j _ => K - (intOf j).toNat)
    case atStart => exact ⟨0, _, _, _, _, by omega, rfl, MInv.start K T _, fun x => by simp [ds]; rfl, HC2.out, HB3.out⟩
    case round =>
      obtain ⟨m, v, wa, la, D, hm, rfl, hinv, hcnt, hcin, hb⟩ := hrel
      have HI := Lib.hid hinv
      have HC := Lib.hid hcin
      have HB := Lib.hid hb
      have HN := Lib.hid hcnt
      clear hcnt
      by_cases hlt : m < K
      · obtain ⟨J, hJ⟩ : ∃ J, J = (m + T) % K := ⟨_, rfl⟩
        have hJK : J < K := by rw [hJ]; exact Nat.mod_lt _ hK1
        have hJz : J < zs.length := by omega
        obtain ⟨b, o, rfl, cz, z0, z1⟩ := HZ.out J hJz
        have hbl : b < w.heap.size := World.block_lt_of_cell? _ _ cz
        have cz1 := keepcB hb hbl cz
        have hi0 : (0 : Int) ≤ J := by omega
        have hi1 : (J : Int) < zs.length := by omega
        have hlt' : (m : Int) < K := by omega
        have hml : m < maxLen := by unfold maxLen; omega
        have hm1 : m + 1 ≤ K := hlt
        have hm100 : m ≤ 100 := by omega
        have e1 := wrap_T HT.out
        have e2 := wrap_mT (m := m) HT.out (by omega)
        have e3 := tmod_cast m T K
        rw [← hJ] at e3
        have e4 := Xz_at hJz z0
        obtain ⟨x, hx⟩ : ∃ x, x = Xz zs J := ⟨_, rfl⟩
        rw [← hx] at e4
        have hxw : (Lit.int .i64 x).wf = true := by rw [← e4]; exact wrap64_wf _
        have hkey : keyOf Try.prog 2 (.int .i64 (wrap64 (zs[J].tmod 3))) = some (.int .i64 x) := by rw [e4]; exact keyOf_int_mk Try.underlying2 hxw
        have hkey2 : keyOf Try.prog 2 (.int .i64 x) = some (.int .i64 x) := keyOf_int_mk Try.underlying2 hxw
        have HJ := Lib.hid hJ
        have HX := Lib.hid hx
        have hown := hcin.map
        clear hJ hx z0 z1 cz hinv hcin hb
        go_wp2_with (first
          | (at_lookup; refine wpList_lookup_own_int _ rfl _ _ 49 rfl 2 3 .i64 law64 Try.underlying49 Try.underlying3 (zeroInt _) w2.heap.size m _ rfl hown _ _ rfl hkey ?_; intro cn hat hwc)
          | (at_mapUpdate; refine wpList_mapUpdate_own _ rfl _ _ _ 49 rfl 2 3 law64 Try.underlying49 _ w2.heap.size m _ rfl hown hml _ _ _ rfl rfl hkey2 _ [] (plainElem_int Try.underlying3 (wrap64_wf _)) ?_; intro w3 hown1 hgrow1)
          | go_in)
        have hc3 := HC.out.store (HN.out) hown1 hgrow1 hat (by rw [ds_length]; exact hm100)
        rw [HX.out, HJ.out, ← ds_succ] at hc3
        have HN3 := Lib.hid hc3.2
        obtain ⟨_, i0, i1, i2, _, _, _, _⟩ := id hc3.1
        have HC3 := Lib.hid hc3.1
        have HB3' := Lib.hid (HB.out.grown hgrow1 HB.out.size (fun j hj => by cases hj; exact hcb))
        clear hc3 hown hown1 hgrow1 hat hwc e1 e2 e3 e4 hkey hkey2 hi0 hi1 cz1
        try simp only [Act.put]
        refine wp_region_T (fun w' => w'.cell? ⟨w1.heap.size, 0, none⟩ = some (.int .u32 1) ∧ w'.cell? ⟨w1.heap.size, 1, none⟩ = some (.int .u32 1) ∧ w'.cell? ⟨w1.heap.size, 2, none⟩ = some (.int .u16 0)) 7 (by kernel_rfl) ⟨i0, i1, i2⟩ (fun hT => ?_)
        refine T_takeC 0 hT rfl (by kernel_rfl) (by kernel_rfl) (by kernel_rfl) (by kernel_rfl) (fun _ _ _ h => h) (by rfl) (by (intro w' hw'; (try dsimp only at hw'); go_simp; try with_reducible rfl)) ?_
        try simp only [Act.put, List.setIfInBounds_toArray, List.set_cons_zero, List.set_cons_succ]
        refine T_takeC 1 hT rfl (by kernel_rfl) (by kernel_rfl) (by kernel_rfl) (by kernel_rfl) (fun _ _ _ h => h) (by rfl) (by (intro w' hw'; (try dsimp only at hw'); go_simp; try with_reducible rfl)) ?_
        try simp only [Act.put, List.setIfInBounds_toArray, List.set_cons_zero, List.set_cons_succ]
        refine T_takeC 2 hT rfl (by kernel_rfl) (by kernel_rfl) (by kernel_rfl) (by kernel_rfl) (fun _ _ _ h => h) (by rfl) (by (intro w' hw'; (try dsimp only at hw'); go_simp; try with_reducible rfl)) ?_
        try simp only [Act.put, List.setIfInBounds_toArray, List.set_cons_zero, List.set_cons_succ]
        refine T_takeC 3 hT rfl (by kernel_rfl) (by kernel_rfl) (by kernel_rfl) (by kernel_rfl) (fun _ _ _ h => h) (by rfl) (by (intro w' hw'; (try dsimp only at hw'); go_simp; try with_reducible rfl)) ?_
        try simp only [Act.put, List.setIfInBounds_toArray, List.set_cons_zero, List.set_cons_succ]
        refine T_one 4 rfl (by kernel_rfl) (by decide) (fun KK hK => ?_)
        rw [if_pos (by rfl)]
        go_simp
        refine (int_c _ _).mono ?_
        rintro e w5 ⟨rfl, hb5⟩
        have HC5 := Lib.hid ((HC3.out.below (Below.refl _ _).drew).below hb5)
        have HB5 := Lib.hid (HB3'.out.trans ((((Below.refl _ w3).drew).trans hb5).mono HB3'.out.size))
        refine hK _ _ ⟨HC5.out.i0, HC5.out.i1, HC5.out.i2⟩ (fun hT5 => ?_)
        try simp only [Act.put, List.setIfInBounds_toArray, List.set_cons_zero, List.set_cons_succ]
        clear hK hb5
        refine T_one 5 rfl (by kernel_rfl) (by decide) (fun KK hK => ?_)
        rw [if_pos (by rfl)]
        go_simp
        refine hK _ _ hT5 (fun hT6 => ?_)
        try simp only [Act.put, List.setIfInBounds_toArray, List.set_cons_zero, List.set_cons_succ]
        clear hK
        refine T_one 6 rfl (by kernel_rfl) (by decide) (fun KK hK => ?_)
        rw [if_pos (by rfl)]
        go_simp
        have hput := put_maj ⟨hK1, hK7⟩ hlt HI.out HC5.out.vote
        rw [← HJ.out, ← HX.out] at hput
        refine hput.mono ?_
        rintro e w8 ⟨wa8, la8, rfl, hv8, hf8⟩
        have HC8 := Lib.hid (HC5.out.put hv8 hf8)
        have HB8 := Lib.hid (HB5.out.trans (hf8.below.mono (by omega)))
        have HI8 := Lib.hid (HI.out.put ⟨hK1, hK7⟩)
        rw [← HJ.out, ← HX.out] at HI8
        clear hput hv8 hf8
        refine hK _ _ ⟨HC8.out.i0, HC8.out.i1, HC8.out.i2⟩ (fun hT8 => ?_)
        try simp only [Act.put, List.setIfInBounds_toArray, List.set_cons_zero, List.set_cons_succ]
        clear hK
        refine T_last rfl (by kernel_rfl) (by kernel_rfl) (fun KK hK => ?_)
        rw [if_pos (by rfl)]
        go_simp
        refine hK _ _ ?_
        clear hK hT hT5 hT6 hT8 i0 i1 i2
        go_wp2_with fail
        go_roundw
        case rel => exact ⟨m + 1, _, wa8, la8, _, hm1, by go_num, HI8.out, HN3.out, HC8.out, HB8.out⟩
        case measure => simp [intOf]; omega
      · have hmK : K = m := by omega
        subst hmK
        clear hinv hcin hb
        cases his : v.is
        · go_wp2_with fail
          refine (result_no _ _ _ _ _ HC.out.vote his).mono ?_
          rintro e w9 ⟨rfl, hb9⟩
          rw [zval]
          have hrb := heap_alloc_new w9 (.cells #[.int .u32 0, .int .u32 0, .int .u16 0, .int .i64 0, .int .i64 0, .int .i64 0, .float .f64 0, .string ⟨#[]⟩, .slice none 0 0] 32)
          have hm9 := ((HC.out.map.kept (grownBy_of_below hb9 none) (by simp)).kept (grownBy_of_below (alloc_below w9 (.cells #[.int .u32 0, .int .u32 0, .int .u16 0, .int .i64 0, .int .i64 0, .int .i64 0, .float .f64 0, .string ⟨#[]⟩, .slice none 0 0] 32)) none) (by simp))
          have hb10 := HB.out.trans ((hb9.trans ((alloc_below w9 (.cells #[.int .u32 0, .int .u32 0, .int .u16 0, .int .i64 0, .int .i64 0, .int .i64 0, .float .f64 0, .string ⟨#[]⟩, .slice none 0 0] 32)).mono hb9.size)).mono HB.out.size)
          have HM9 := Lib.hid hm9
          have HB10 := Lib.hid hb10
          have HRB := Lib.hid ((cells_of_block9 hrb).1.2.2.2.2.2.1)
          clear hrb hm9 hb10 hb9
          go_wp2_with fail
          go_loopw [16] (fun j wr => ∃ q : Nat, q ≤ 3 ∧ j = .int .i64 q ∧ (∀ p : Nat, p < q → (ds K T (Xz zs) K).count (p : Int) < K / 2 + 1) ∧ wr.ownsMap Try.prog 2 (plainElem Try.prog 3) w2.heap.size K D ∧ wr.cell? ⟨w9.heap.size, 5, none⟩ = some (.int .i64 0) ∧ Below w.heap.size w wr) (fun j _ => 3 - (intOf j).toNat)
          case atStart => exact ⟨0, by omega, rfl, fun p hp => by omega, HM9.out, HRB.out, HB10.out⟩
          case round =>
            obtain ⟨q, hq3, rfl, hno, hmap, hrc, hb⟩ := hrel
            have HB11 := Lib.hid hb
            have HNO := Lib.hid hno
            have HRC := Lib.hid hrc
            clear hb hno
            by_cases hlt : q < 3
            · obtain ⟨cq, hcq⟩ : ∃ cq, (ds K T (Xz zs) K).count (q : Int) = cq := ⟨_, rfl⟩
              have hql : (q : Int) < 3 := by omega
              have hq1 : q + 1 ≤ 3 := by omega
              obtain ⟨N, hN0⟩ : ∃ N, K / 2 + 1 = N := ⟨_, rfl⟩
              have hN : nodesI (K : Int) / 2 + 1 = (N : Int) := by rw [← hN0]; exact need_K ⟨hK1, hK7⟩
              have hd : decide ((N : Int) ≤ (cq : Int)) = false := by
                have := HI.out.no his q
                rw [hcq, hN0] at this
                simp; omega
              have hqn : (ds K T (Xz zs) K).count (q : Int) < K / 2 + 1 := HI.out.no his q
              go_wp2_with fail
              refine wp_region_T (fun w' => w'.ownsMap Try.prog 2 (plainElem Try.prog 3) w2.heap.size K D) 5 (by kernel_rfl) hmap.drew (fun hT => ?_)
              refine T_takeC 0 hT rfl (by kernel_rfl) (by kernel_rfl) (by kernel_rfl) (by kernel_rfl) (fun _ _ _ h => h) (by rfl) (by (intro w' hw'; (try dsimp only at hw'); go_simp; try with_reducible rfl)) ?_
              try simp only [Act.put, List.setIfInBounds_toArray, List.set_cons_zero, List.set_cons_succ]
              refine T_takeC 1 hT rfl (by kernel_rfl) (by kernel_rfl) (by kernel_rfl) (by kernel_rfl) (fun _ _ _ h => h) (by rfl) (by (intro w' hw'; (try dsimp only at hw'); go_simp; try with_reducible rfl)) ?_
              try simp only [Act.put, List.setIfInBounds_toArray, List.set_cons_zero, List.set_cons_succ]
              refine T_takeC 2 hT rfl (by kernel_rfl) (by kernel_rfl) (by kernel_rfl) (by kernel_rfl) (fun _ _ _ h => h) (by rfl) (by (intro w' hw'; (try dsimp only at hw'); have hlk := look_c hw' HN.out q hq3; rw [hcq] at hlk; go_simp; try with_reducible rfl)) ?_
              try simp only [Act.put, List.setIfInBounds_toArray, List.set_cons_zero, List.set_cons_succ]
              refine T_takeC 3 hT rfl (by kernel_rfl) (by kernel_rfl) (by kernel_rfl) (by kernel_rfl) (fun _ _ _ h => h) (by rfl) (by (intro w' hw'; (try dsimp only at hw'); go_simp; try with_reducible rfl)) ?_
              try simp only [Act.put, List.setIfInBounds_toArray, List.set_cons_zero, List.set_cons_succ]
              refine T_one 4 rfl (by kernel_rfl) (by decide) (fun KK hK => ?_)
              rw [if_pos (by rfl)]
              go_simp
              refine (need1_c _ _).mono ?_
              rintro e w5 ⟨rfl, rfl⟩
              rw [hN]
              refine hK _ _ hT (fun hT5 => ?_)
              try simp only [Act.put, List.setIfInBounds_toArray, List.set_cons_zero, List.set_cons_succ]
              clear hK
              refine T_last rfl (by kernel_rfl) (by kernel_rfl) (fun KK hK => ?_)
              rw [if_pos (by rfl)]
              go_simp
              refine hK _ _ ?_
              clear hK hT hT5
              go_wp2_with fail
              go_roundw
              case rel => exact ⟨q + 1, hq1, by go_num, fun p hp => by rcases Nat.lt_succ_iff_lt_or_eq.1 hp with h | h; exact HNO.out p h; subst h; exact hqn, hmap, HRC.out, HB11.out.drew⟩
              case measure => simp [intOf]; omega
            · have hq : q = 3 := by omega
              subst hq
              go_wp2_with fail
              go_ret
              exact ⟨rfl, HB11.out⟩
        · obtain ⟨y, hres, hyc⟩ := HI.out.yes his
          go_wp2_with fail
          refine (result_yes _ _ _ _ _ HC.out.vote his (by rw [hres]; exact (show (1 : Int) ≠ 4 by decide))).mono ?_
          rintro e w9 ⟨rfl, hb9⟩
          rw [hres, cf_rz, show (rz 1 1 y).val = .agg #[.int .u32 1, .int .u32 1, .int .u16 0, .int .i64 0, .int .i64 1, .int .i64 y, .float .f64 0, .string ⟨#[]⟩, .slice none 0 0] from rfl]
          have hrb := heap_alloc_new w9 (.cells #[.int .u32 1, .int .u32 1, .int .u16 0, .int .i64 0, .int .i64 1, .int .i64 y, .float .f64 0, .string ⟨#[]⟩, .slice none 0 0] 32)
          have hm9 := ((HC.out.map.kept (grownBy_of_below hb9 none) (by simp)).kept (grownBy_of_below (alloc_below w9 (.cells #[.int .u32 1, .int .u32 1, .int .u16 0, .int .i64 0, .int .i64 1, .int .i64 y, .float .f64 0, .string ⟨#[]⟩, .slice none 0 0] 32)) none) (by simp))
          have hb10 := HB.out.trans ((hb9.trans ((alloc_below w9 (.cells #[.int .u32 1, .int .u32 1, .int .u16 0, .int .i64 0, .int .i64 1, .int .i64 y, .float .f64 0, .string ⟨#[]⟩, .slice none 0 0] 32)).mono hb9.size)).mono HB.out.size)
          have HM9 := Lib.hid hm9
          have HB10 := Lib.hid hb10
          have HRB := Lib.hid ((cells_of_block9 hrb).1.2.2.2.2.2.1)
          clear hrb hm9 hb10 hb9
          go_wp2_with fail
          go_loopw [16] (fun j wr => ∃ q : Nat, q ≤ 3 ∧ j = .int .i64 q ∧ (∀ p : Nat, p < q → (ds K T (Xz zs) K).count (p : Int) < K / 2 + 1) ∧ wr.ownsMap Try.prog 2 (plainElem Try.prog 3) w2.heap.size K D ∧ wr.cell? ⟨w9.heap.size, 5, none⟩ = some (.int .i64 y) ∧ Below w.heap.size w wr) (fun j _ => 3 - (intOf j).toNat)
          case atStart => exact ⟨0, by omega, rfl, fun p hp => by omega, HM9.out, HRB.out, HB10.out⟩
          case round =>
            obtain ⟨q, hq3, rfl, hno, hmap, hrc, hb⟩ := hrel
            have HB11 := Lib.hid hb
            have HNO := Lib.hid hno
            have HRC := Lib.hid hrc
            clear hb hno
            by_cases hlt : q < 3
            · obtain ⟨cq, hcq⟩ : ∃ cq, (ds K T (Xz zs) K).count (q : Int) = cq := ⟨_, rfl⟩
              have hql : (q : Int) < 3 := by omega
              have hq1 : q + 1 ≤ 3 := by omega
              obtain ⟨N, hN0⟩ : ∃ N, K / 2 + 1 = N := ⟨_, rfl⟩
              have hN : nodesI (K : Int) / 2 + 1 = (N : Int) := by rw [← hN0]; exact need_K ⟨hK1, hK7⟩
              by_cases hge : N ≤ cq
              · have hd : decide ((N : Int) ≤ (cq : Int)) = true := by simp; omega
                have hyq : y = q := MInv.one hyc (by rw [hcq, hN0]; exact hge)
                subst hyq
                go_wp2_with fail
                refine wp_region_T (fun w' => w'.ownsMap Try.prog 2 (plainElem Try.prog 3) w2.heap.size K D) 5 (by kernel_rfl) hmap.drew (fun hT => ?_)
                refine T_takeC 0 hT rfl (by kernel_rfl) (by kernel_rfl) (by kernel_rfl) (by kernel_rfl) (fun _ _ _ h => h) (by rfl) (by (intro w' hw'; (try dsimp only at hw'); go_simp; try with_reducible rfl)) ?_
                try simp only [Act.put, List.setIfInBounds_toArray, List.set_cons_zero, List.set_cons_succ]
                refine T_takeC 1 hT rfl (by kernel_rfl) (by kernel_rfl) (by kernel_rfl) (by kernel_rfl) (fun _ _ _ h => h) (by rfl) (by (intro w' hw'; (try dsimp only at hw'); go_simp; try with_reducible rfl)) ?_
                try simp only [Act.put, List.setIfInBounds_toArray, List.set_cons_zero, List.set_cons_succ]
                refine T_takeC 2 hT rfl (by kernel_rfl) (by kernel_rfl) (by kernel_rfl) (by kernel_rfl) (fun _ _ _ h => h) (by rfl) (by (intro w' hw'; (try dsimp only at hw'); have hlk := look_c hw' HN.out q hq3; rw [hcq] at hlk; go_simp; try with_reducible rfl)) ?_
                try simp only [Act.put, List.setIfInBounds_toArray, List.set_cons_zero, List.set_cons_succ]
                refine T_takeC 3 hT rfl (by kernel_rfl) (by kernel_rfl) (by kernel_rfl) (by kernel_rfl) (fun _ _ _ h => h) (by rfl) (by (intro w' hw'; (try dsimp only at hw'); go_simp; try with_reducible rfl)) ?_
                try simp only [Act.put, List.setIfInBounds_toArray, List.set_cons_zero, List.set_cons_succ]
                refine T_one 4 rfl (by kernel_rfl) (by decide) (fun KK hK => ?_)
                rw [if_pos (by rfl)]
                go_simp
                refine (need1_c _ _).mono ?_
                rintro e w5 ⟨rfl, rfl⟩
                rw [hN]
                refine hK _ _ hT (fun hT5 => ?_)
                try simp only [Act.put, List.setIfInBounds_toArray, List.set_cons_zero, List.set_cons_succ]
                clear hK
                refine T_last rfl (by kernel_rfl) (by kernel_rfl) (fun KK hK => ?_)
                rw [if_pos (by rfl)]
                go_simp
                refine hK _ _ ?_
                clear hK hT hT5
                go_wp2_with fail
                go_ret
                exact ⟨rfl, HB11.out.drew⟩
              · have hd : decide ((N : Int) ≤ (cq : Int)) = false := by simp; omega
                have hqn : (ds K T (Xz zs) K).count (q : Int) < K / 2 + 1 := by rw [hcq, hN0]; omega
                go_wp2_with fail
                refine wp_region_T (fun w' => w'.ownsMap Try.prog 2 (plainElem Try.prog 3) w2.heap.size K D) 5 (by kernel_rfl) hmap.drew (fun hT => ?_)
                refine T_takeC 0 hT rfl (by kernel_rfl) (by kernel_rfl) (by kernel_rfl) (by kernel_rfl) (fun _ _ _ h => h) (by rfl) (by (intro w' hw'; (try dsimp only at hw'); go_simp; try with_reducible rfl)) ?_
                try simp only [Act.put, List.setIfInBounds_toArray, List.set_cons_zero, List.set_cons_succ]
                refine T_takeC 1 hT rfl (by kernel_rfl) (by kernel_rfl) (by kernel_rfl) (by kernel_rfl) (fun _ _ _ h => h) (by rfl) (by (intro w' hw'; (try dsimp only at hw'); go_simp; try with_reducible rfl)) ?_
                try simp only [Act.put, List.setIfInBounds_toArray, List.set_cons_zero, List.set_cons_succ]
                refine T_takeC 2 hT rfl (by kernel_rfl) (by kernel_rfl) (by kernel_rfl) (by kernel_rfl) (fun _ _ _ h => h) (by rfl) (by (intro w' hw'; (try dsimp only at hw'); have hlk := look_c hw' HN.out q hq3; rw [hcq] at hlk; go_simp; try with_reducible rfl)) ?_
                try simp only [Act.put, List.setIfInBounds_toArray, List.set_cons_zero, List.set_cons_succ]
                refine T_takeC 3 hT rfl (by kernel_rfl) (by kernel_rfl) (by kernel_rfl) (by kernel_rfl) (fun _ _ _ h => h) (by rfl) (by (intro w' hw'; (try dsimp only at hw'); go_simp; try with_reducible rfl)) ?_
                try simp only [Act.put, List.setIfInBounds_toArray, List.set_cons_zero, List.set_cons_succ]
                refine T_one 4 rfl (by kernel_rfl) (by decide) (fun KK hK => ?_)
                rw [if_pos (by rfl)]
                go_simp
                refine (need1_c _ _).mono ?_
                rintro e w5 ⟨rfl, rfl⟩
                rw [hN]
                refine hK _ _ hT (fun hT5 => ?_)
                try simp only [Act.put, List.setIfInBounds_toArray, List.set_cons_zero, List.set_cons_succ]
                clear hK
                refine T_last rfl (by kernel_rfl) (by kernel_rfl) (fun KK hK => ?_)
                rw [if_pos (by rfl)]
                go_simp
                refine hK _ _ ?_
                clear hK hT hT5
                go_wp2_with fail
                go_roundw
                case rel => exact ⟨q + 1, hq1, by go_num, fun p hp => by rcases Nat.lt_succ_iff_lt_or_eq.1 hp with h | h; exact HNO.out p h; subst h; exact hqn, hmap, HRC.out, HB11.out.drew⟩
                case measure => simp [intOf]; omega
            · exfalso
              obtain ⟨q', hq', e⟩ := Xz_mem (Nat.le_trans (by omega) hyc)
              have := HNO.out q' (by omega)
              rw [← e] at this
              omega
end Go.Proofs.Ytbncfpbaifnikaa
