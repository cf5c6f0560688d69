/- The law of results that stay: its walk. -/
import Derived.Test.YtbncfpbaifnikaaY
import Derived.Test.YtbncfpbaifnikaaRe
import Derived.Test.YtbncfpbaifnikaaRc
import Derived.OpenShut
namespace Go.Proofs.Ytbncfpbaifnikaa
open Go Go.RowKit
attribute [local go_sem ↓] run_store_float

def rz (c s x : Int) : Rp := ⟨c, s, 0, 0, 1, x, 0, ⟨#[]⟩⟩
theorem cf_rz (c s x : Int) : cfR (rz c s x) = rz c s x := by
  unfold cfR
  rw [if_pos (show (rz c s x).k = 1 from rfl)]; rfl
theorem rz_ok {c s x : Int} (h : (Lit.int .i64 x).wf = true) : (rz c s x).ok := ⟨wfc1, h, fc0, tc0⟩

theorem decR_mem {need : Int} {l : List Rp} (h : (decR need l).2 = true) : (decR need l).1 ∈ l := by
  unfold decR at h ⊢
  cases hf : firstR need l with
  | none => rw [hf] at h; cases h
  | some r => exact List.mem_of_find?_eq_some hf

structure Inv (n0 : Int) (m : Nat) (v : Vt) : Prop where
  id : v.c = 1 ∧ v.s = 2 ∧ v.e = 0
  n : v.n = n0
  who : v.who.length ≤ m ∧ ∀ x ∈ v.who, x < m
  l : v.l.length ≤ m ∧ ∀ y ∈ v.l, y.ok ∧ y.k = 1 ∧ cfR y = y
  res : v.is = true → v.res ∈ v.l
theorem Inv.start (n0 p : Int) : Inv n0 0 ⟨1, 2, 0, n0, p, [], [], false, zeroR⟩ :=
  ⟨⟨rfl, rfl, rfl⟩, rfl, ⟨Nat.le_refl _, fun x h => by cases h⟩, ⟨Nat.le_refl _, fun x h => by cases h⟩, fun h => by cases h⟩
theorem Inv.skip {n0 : Int} {m : Nat} {v : Vt} (h : Inv n0 m v) : Inv n0 (m + 1) v :=
  ⟨h.id, h.n, ⟨Nat.le_succ_of_le h.who.1, fun x hx => by have := h.who.2 x hx; omega⟩, ⟨Nat.le_succ_of_le h.l.1, h.l.2⟩, h.res⟩
theorem put_fields (v : Vt) (x : Int) (r : Rp) : (v.put x r).c = v.c ∧ (v.put x r).s = v.s ∧ (v.put x r).e = v.e ∧ (v.put x r).n = v.n ∧ (v.put x r).p = v.p ∧ (v.put x r).who = v.who ++ [x] ∧ (v.put x r).l = v.l ++ [cfR r] := by
  unfold Vt.put
  cases v.is <;> exact ⟨rfl, rfl, rfl, rfl, rfl, rfl, rfl⟩
theorem put_stays {v : Vt} (x : Int) (r : Rp) (h : v.is = true) : (v.put x r).is = true ∧ (v.put x r).res = v.res := by
  unfold Vt.put
  simp only [h, if_true]
  exact ⟨trivial, trivial⟩
theorem put_res {v : Vt} (x : Int) (r : Rp) (h : v.is = false) : (v.put x r).is = (decR (needI v.p v.n) (v.l ++ [cfR r])).2 ∧ (v.put x r).res = (decR (needI v.p v.n) (v.l ++ [cfR r])).1 := by
  unfold Vt.put
  simp only [h]
  exact ⟨rfl, rfl⟩
theorem Inv.put {n0 : Int} {m : Nat} {v : Vt} (h : Inv n0 m v) {x : Int} (hx : (Lit.int .i64 x).wf = true) : Inv n0 (m + 1) (v.put m (rz 1 2 x)) := by
  obtain ⟨e1, e2, e3, e4, e5, e6, e7⟩ := put_fields v m (rz 1 2 x)
  refine ⟨by rw [e1, e2, e3]; exact h.id, by rw [e4]; exact h.n, ?_, ?_, ?_⟩
  · rw [e6]
    refine ⟨by have := h.who.1; simp; omega, fun y hy => ?_⟩
    rcases List.mem_append.1 hy with hy | hy
    · have := h.who.2 y hy; omega
    · simp at hy; omega
  · rw [e7, cf_rz]
    refine ⟨by have := h.l.1; simp; omega, fun y hy => ?_⟩
    rcases List.mem_append.1 hy with hy | hy
    · exact h.l.2 y hy
    · simp at hy; subst hy; exact ⟨rz_ok hx, rfl, cf_rz _ _ _⟩
  · intro hi
    cases hv : v.is
    · obtain ⟨f1, f2⟩ := put_res m (rz 1 2 x) hv
      rw [f1] at hi
      rw [f2, e7]
      exact decR_mem hi
    · rw [e7, (put_stays m (rz 1 2 x) hv).2]
      exact List.mem_append_left _ (h.res hv)

/-- What the loop holds: the vote, the id at ib, the first result at fb. -/
structure SIn (w : World) (ib fb vb : Nat) (v : Vt) (wa la : Value) (f : Rp) : Prop where
  vote : VoteIn w vb v wa la
  i0 : w.cell? ⟨ib, 0, none⟩ = some (.int .u32 1)
  i1 : w.cell? ⟨ib, 1, none⟩ = some (.int .u32 2)
  i2 : w.cell? ⟨ib, 2, none⟩ = some (.int .u16 0)
  f : w.heap[fb]? = some (.cells #[.int .u32 f.c, .int .u32 f.s, .int .u16 f.n, .int .i64 f.e, .int .i64 f.k, .int .i64 f.i, .float .f64 f.f, .string f.t, .slice none 0 0] 32)
  ne : ib ≠ vb ∧ fb ≠ vb ∧ ib ≠ fb
  ow : wa.ownBlock ≠ some ib ∧ wa.ownBlock ≠ some fb ∧ la.ownBlock ≠ some ib ∧ la.ownBlock ≠ some fb
theorem SIn.below {w w' ib fb vb v wa la f} (h : SIn w ib fb vb v wa la f) (hb : Below w.heap.size w w') : SIn w' ib fb vb v wa la f :=
  ⟨h.vote.below hb, keepc hb h.i0, keepc hb h.i1, keepc hb h.i2, block_below hb h.f, h.ne, h.ow⟩
theorem SIn.put {w w' ib fb vb v wa la f v' wa' la'} (h : SIn w ib fb vb v wa la f) (hv : VoteIn w' vb v' wa' la') (hf : VFr w w' vb wa la wa' la') : SIn w' ib fb vb v' wa' la' f := by
  obtain ⟨o1, o2, o3, o4⟩ := h.ow
  have hfl : fb < w.heap.size := (Array.getElem?_eq_some_iff.1 h.f).1
  have p1 := hf.apart ib (World.block_lt_of_cell? _ _ h.i0) o1 o3
  have p2 := hf.apart fb hfl o2 o4
  exact ⟨hv, hf.cell h.i0 h.ne.1 o1 o3, hf.cell h.i1 h.ne.1 o1 o3, hf.cell h.i2 h.ne.1 o1 o3, (hf.same fb hfl h.ne.2.1 o2 o4).trans h.f, h.ne, p1.1, p2.1, p1.2, p2.2⟩

abbrev put9 (w : World) (b : Nat) (r : Rp) : World :=
  ((((((((w.setCell ⟨b, 0, none⟩ (.int .u32 r.c)).setCell ⟨b, 1, none⟩ (.int .u32 r.s)).setCell ⟨b, 2, none⟩ (.int .u16 r.n)).setCell ⟨b, 3, none⟩ (.int .i64 r.e)).setCell ⟨b, 4, none⟩ (.int .i64 r.k)).setCell ⟨b, 5, none⟩ (.int .i64 r.i)).setCell ⟨b, 6, none⟩ (.float .f64 r.f)).setCell ⟨b, 7, none⟩ (.string r.t)).setCell ⟨b, 8, none⟩ (.slice none 0 0)
theorem put9_block {w : World} {b : Nat} {f r : Rp} (h : w.heap[b]? = some (.cells #[.int .u32 f.c, .int .u32 f.s, .int .u16 f.n, .int .i64 f.e, .int .i64 f.k, .int .i64 f.i, .float .f64 f.f, .string f.t, .slice none 0 0] 32)) :
    (put9 w b r).heap[b]? = some (.cells #[.int .u32 r.c, .int .u32 r.s, .int .u16 r.n, .int .i64 r.e, .int .i64 r.k, .int .i64 r.i, .float .f64 r.f, .string r.t, .slice none 0 0] 32) := by
  have e0 := block_setCell_self (i := 0) (u := .int .u32 r.c) h
  simp only [List.setIfInBounds_toArray, List.set_cons_succ, List.set_cons_zero] at e0
  have e1 := block_setCell_self (i := 1) (u := .int .u32 r.s) e0
  simp only [List.setIfInBounds_toArray, List.set_cons_succ, List.set_cons_zero] at e1
  have e2 := block_setCell_self (i := 2) (u := .int .u16 r.n) e1
  simp only [List.setIfInBounds_toArray, List.set_cons_succ, List.set_cons_zero] at e2
  have e3 := block_setCell_self (i := 3) (u := .int .i64 r.e) e2
  simp only [List.setIfInBounds_toArray, List.set_cons_succ, List.set_cons_zero] at e3
  have e4 := block_setCell_self (i := 4) (u := .int .i64 r.k) e3
  simp only [List.setIfInBounds_toArray, List.set_cons_succ, List.set_cons_zero] at e4
  have e5 := block_setCell_self (i := 5) (u := .int .i64 r.i) e4
  simp only [List.setIfInBounds_toArray, List.set_cons_succ, List.set_cons_zero] at e5
  have e6 := block_setCell_self (i := 6) (u := .float .f64 r.f) e5
  simp only [List.setIfInBounds_toArray, List.set_cons_succ, List.set_cons_zero] at e6
  have e7 := block_setCell_self (i := 7) (u := .string r.t) e6
  simp only [List.setIfInBounds_toArray, List.set_cons_succ, List.set_cons_zero] at e7
  have e8 := block_setCell_self (i := 8) (u := .slice none 0 0) e7
  simp only [List.setIfInBounds_toArray, List.set_cons_succ, List.set_cons_zero] at e8
  exact e8
theorem VoteIn.setCell {w : World} {vb : Nat} {v : Vt} {wa la : Value} (h : VoteIn w vb v wa la) {b i : Nat} {u : Value} (hne : b ≠ vb) (h1 : wa.ownBlock ≠ some b) (h2 : la.ownBlock ≠ some b) : VoteIn (w.setCell ⟨b, i, none⟩ u) vb v wa la :=
  ⟨block_setCell (a := ⟨b, i, none⟩) (fun e => hne e.symm) h.1, ownsRow_setCell h.2.1 (a := ⟨b, i, none⟩) h1 u, ownsRow_setCell h.2.2.1 (a := ⟨b, i, none⟩) h2 u, h.2.2.2⟩
theorem cell_put9 {w : World} {b : Nat} {r : Rp} {k o : Nat} {u : Value} (hne : k ≠ b) (h : w.cell? ⟨k, o, none⟩ = some u) : (put9 w b r).cell? ⟨k, o, none⟩ = some u := by
  have c : ∀ (w : World) (i : Nat) (x : Value), (w.setCell ⟨b, i, none⟩ x).cell? ⟨k, o, none⟩ = w.cell? ⟨k, o, none⟩ := fun w i x => World.cell?_setCell_other w ⟨b, i, none⟩ ⟨k, o, none⟩ x (fun e => hne (by simpa using (congrArg Addr.block e).symm))
  unfold put9
  rw [c, c, c, c, c, c, c, c, c]; exact h
theorem SIn.setF {w ib fb vb v wa la f} (h : SIn w ib fb vb v wa la f) (r : Rp) : SIn (put9 w fb r) ib fb vb v wa la r := by
  obtain ⟨o1, o2, o3, o4⟩ := h.ow
  obtain ⟨n1, n2, n3⟩ := h.ne
  exact ⟨((((((((h.vote.setCell n2 o2 o4).setCell n2 o2 o4).setCell n2 o2 o4).setCell n2 o2 o4).setCell n2 o2 o4).setCell n2 o2 o4).setCell n2 o2 o4).setCell n2 o2 o4).setCell n2 o2 o4,
    cell_put9 n3 h.i0, cell_put9 n3 h.i1, cell_put9 n3 h.i2, put9_block h.f, h.ne, h.ow⟩

theorem reply_self (r : Rp) (h : r.ok) (w : World) : Calls Try.prog 17 #[r.val, r.val] w fun e w' => e = .returned (.bool true) ∧ Below w.heap.size w w' := by
  have := reply_c r.c r.s r.n r.e r.v (.slice none 0 0) r.c r.s r.n r.e r.v (.slice none 0 0) w (fun _ => True) (fun _ => True) (Rp.vin h) (Rp.vin h)
  rw [V.same_self] at this
  simp only [idEq, beq_self_eq_true, Bool.and_self] at this
  exact this
theorem lt_of_b {w : World} {b : Nat} {o : Obj} (h : w.heap[b]? = some o) : b < w.heap.size := (Array.getElem?_eq_some_iff.1 h).1
/-- Behind a Put of a loop's round. -/
def PutAny (n0 : Int) (m : Nat) (w : World) (vb : Nat) (v : Vt) (wa la : Value) (e : Ending) (w' : World) : Prop :=
  ∃ v' wa' la' b, e = .returned (.bool b) ∧ Inv n0 (m + 1) v' ∧ VoteIn w' vb v' wa' la' ∧ VFr w w' vb wa la wa' la' ∧ (v.is = true → v'.is = true ∧ v'.res = v.res)
theorem put_any {n0 : Int} (hn0 : 1 ≤ n0 ∧ n0 ≤ 7) {m : Nat} (hm : m < 10) {v : Vt} (hI : Inv n0 m v) {x : Int} (hx : (Lit.int .i64 x).wf = true) {w : World} {vb : Nat} {wa la : Value} (hV : VoteIn w vb v wa la) :
    Calls Try.prog 14 #[.pointer (some ⟨vb, 0, none⟩), .int .i64 m, (rz 1 2 x).val] w (PutAny n0 m w vb v wa la) := by
  by_cases hmn : (m : Int) < n0
  · refine (put_ok vb v wa la m (rz 1 2 x) w hV ⟨hI.id.1.symm, hI.id.2.1.symm, hI.id.2.2.symm⟩ (rz_ok hx) (show (1 : Int) ≠ 4 by decide) (by omega) (by rw [hI.n]; exact hmn) (fun h => by have := hI.who.2 _ h; omega) (by rw [hI.n]; exact hn0)
      (by have h1 := hI.who.1; have h2 := hI.l.1; omega) (fun y hy => (hI.l.2 y hy).1)).mono ?_
    rintro e w8 ⟨wa8, la8, rfl, hv8, hf8⟩
    exact ⟨_, wa8, la8, true, rfl, hI.put hx, hv8, hf8, fun h => put_stays _ _ h⟩
  · refine (put_ge vb v wa la m (rz 1 2 x) w hV ⟨hI.id.1.symm, hI.id.2.1.symm, hI.id.2.2.symm⟩ (by omega) (by rw [hI.n]; omega)).mono ?_
    rintro e w8 ⟨wa8, la8, rfl, hv8, hf8⟩
    exact ⟨v, wa8, la8, false, rfl, hI.skip, hv8, hf8, fun h => ⟨h, rfl⟩⟩

theorem voteStays_c (n p : Int) (a : Option Addr) (c : Nat) (zs : List Int) (hl : zs.length ≤ 9223372036854775807) (w : World) (hz : ∀ j (hj : j < zs.length), ∃ b o, a = some ⟨b, o, none⟩ ∧ w.cell? ⟨b, o + j, none⟩ = some (.int .u8 zs[j]) ∧ 0 ≤ zs[j] ∧ zs[j] ≤ 255) :
    Calls Try.prog 4 #[.int .u8 n, .int .u8 p, .slice a zs.length c] w fun x w' => x = .returned (.bool true) ∧ Below w.heap.size w w' := by
  have HZ := Lib.hid hz
  clear hz
  by_cases hl10 : 10 < zs.length
  · go_enter Try.func4, Try.ntmps4
    go_wp2_with fail
    refine (known_c _).mono ?_
    rintro e w1 ⟨rfl, hb1⟩
    go_wp2_with fail
    go_ret
    exact ⟨rfl, hb1⟩
  · go_enter Try.func4, Try.ntmps4
    go_wp2_with fail
    refine (known_c _).mono ?_
    rintro e w1 ⟨rfl, hb1⟩
    have HB1 := Lib.hid hb1
    have hz1 := hb1.size
    clear hb1
    go_wp2_with fail
    refine (new_c 1 2 0 _ _ _).mono ?_
    rintro e w2 ⟨rfl, hv2, hb2⟩
    rw [show (w1.alloc (.cells #[.int .u32 1, .int .u32 2, .int .u16 0] 25)).heap.size = w1.heap.size + 1 by simp] at hv2 ⊢
    have hn0 := nodesI_le (wrap64 (wrap64 (n.tmod 7) + 1))
    generalize nodesI (wrap64 (wrap64 (n.tmod 7) + 1)) = n0 at hn0 hv2
    have hz2 := hb2.size
    have hv2lt := hv2.lt
    have hS2 : SIn (w2.alloc (.cells #[.int .u32 0, .int .u32 0, .int .u16 0, .int .i64 0, .int .i64 0, .int .i64 0, .float .f64 0, .string ⟨#[]⟩, .slice none 0 0] 32)) w1.heap.size w2.heap.size (w1.heap.size + 1 + 1) ⟨1, 2, 0, n0, wrap64 (p.tmod 3), [], [], false, zeroR⟩ (.slice none 0 0) (.slice none 0 0) zeroR :=
      ⟨hv2.below (alloc_below _ _), keepc (alloc_below _ _) (keepc hb2 (by simp)), keepc (alloc_below _ _) (keepc hb2 (by simp)), keepc (alloc_below _ _) (keepc hb2 (by simp)), heap_alloc_new _ _, ⟨by omega, by omega, by omega⟩, by simp [Value.ownBlock]⟩
    have HS2 := Lib.hid hS2
    have HB2 := Lib.hid (HB1.out.trans (((alloc_below w1 (.cells #[.int .u32 1, .int .u32 2, .int .u16 0] 25)).trans ((hb2.mono (by simp)).trans ((alloc_below w2 (.cells #[.int .u32 0, .int .u32 0, .int .u16 0, .int .i64 0, .int .i64 0, .int .i64 0, .float .f64 0, .string ⟨#[]⟩, .slice none 0 0] 32)).mono (by omega)))).mono hz1))
    have HI2 := Lib.hid (Inv.start n0 (wrap64 (p.tmod 3)))
    have hib : w.heap.size ≤ w1.heap.size := hz1
    clear hS2 hb2 hv2
    go_wp2_with fail
    go_loopw [10, 11] (fun had j wr => ∃ (m : Nat) (v : Vt) (wa la : Value), m ≤ zs.length ∧ had = .bool v.is ∧ j = .int .i64 m ∧ Inv n0 m v ∧ SIn wr w1.heap.size w2.heap.size (w1.heap.size + 1 + 1) v wa la (if v.is then v.res else zeroR) ∧ Below w.heap.size w wr) (fun _ j _ => zs.length - (intOf j).toNat)
    case atStart => exact ⟨0, _, _, _, by omega, rfl, rfl, HI2.out, HS2.out, HB2.out⟩
    case round =>
      obtain ⟨m, v, wa, la, hm, rfl, rfl, hinv, hsin, hb⟩ := hrel
      have HI := Lib.hid hinv
      have HS := Lib.hid hsin
      have HB := Lib.hid hb
      by_cases hlt : m < zs.length
      · obtain ⟨b, o, rfl, cz, z0, z1⟩ := HZ.out m hlt
        have hbl : b < w.heap.size := World.block_lt_of_cell? _ _ cz
        have cz1 := keepcB hb hbl cz
        have hm10 : m < 10 := by omega
        obtain ⟨_, j0, j1, j2, hf, hne, how⟩ := hsin
        clear hf hne how
        cases his : v.is
        · have lb : b < wr.heap.size := Nat.lt_of_lt_of_le hbl hb.size
          have lib : w1.heap.size < wr.heap.size := World.block_lt_of_cell? _ _ j0
          have hi0 : (0 : Int) ≤ m := by omega
          have hi1 : (m : Int) < zs.length := by omega
          clear hb hinv
          go_wp2_with fail
          refine wp_region_T (fun w' => Held wr w') 11 (by kernel_rfl) Held.start (fun hT => ?_)
          refine T_takeC 0 hT rfl (by kernel_rfl) (by kernel_rfl) (by kernel_rfl) (by kernel_rfl) (fun _ _ _ h => h) (by rfl) (by (intro w' hw'; (try dsimp only at hw'); go_simp; try with_reducible rfl)) ?_
          try simp only [Act.put, List.setIfInBounds_toArray, List.set_cons_zero, List.set_cons_succ]
          refine T_takeC 1 hT rfl (by kernel_rfl) (by kernel_rfl) (by kernel_rfl) (by kernel_rfl) (fun _ _ _ h => h) (by rfl) (by (intro w' hw'; (try dsimp only at hw'); go_simp; try with_reducible rfl)) ?_
          try simp only [Act.put, List.setIfInBounds_toArray, List.set_cons_zero, List.set_cons_succ]
          refine T_takeC 2 hT rfl (by kernel_rfl) (by kernel_rfl) (by kernel_rfl) (by kernel_rfl) (fun _ _ _ h => h) (by rfl) (by (intro w' hw'; (try dsimp only at hw'); go_simp; try with_reducible rfl)) ?_
          try simp only [Act.put, List.setIfInBounds_toArray, List.set_cons_zero, List.set_cons_succ]
          refine T_takeC 3 hT rfl (by kernel_rfl) (by kernel_rfl) (by kernel_rfl) (by kernel_rfl) (fun _ _ _ h => h) (by rfl) (by (intro w' hw'; (try dsimp only at hw'); go_simp; try with_reducible rfl)) ?_
          try simp only [Act.put, List.setIfInBounds_toArray, List.set_cons_zero, List.set_cons_succ]
          refine T_takeC 4 hT rfl (by kernel_rfl) (by kernel_rfl) (by kernel_rfl) (by kernel_rfl) (fun _ _ _ h => h) (by rfl) (by (intro w' hw'; (try dsimp only at hw'); go_simp; try with_reducible rfl)) ?_
          try simp only [Act.put, List.setIfInBounds_toArray, List.set_cons_zero, List.set_cons_succ]
          refine T_takeC 5 hT rfl (by kernel_rfl) (by kernel_rfl) (by kernel_rfl) (by kernel_rfl) (fun _ _ _ h => h) (by rfl) (by (intro w' hw'; (try dsimp only at hw'); go_simp; try with_reducible rfl)) ?_
          try simp only [Act.put, List.setIfInBounds_toArray, List.set_cons_zero, List.set_cons_succ]
          refine T_takeC 6 hT rfl (by kernel_rfl) (by kernel_rfl) (by kernel_rfl) (by kernel_rfl) (fun _ _ _ h => h) (by rfl) (by (intro w' hw'; (try dsimp only at hw'); go_simp; try with_reducible rfl)) ?_
          try simp only [Act.put, List.setIfInBounds_toArray, List.set_cons_zero, List.set_cons_succ]
          refine T_takeC 7 hT rfl (by kernel_rfl) (by kernel_rfl) (by kernel_rfl) (by kernel_rfl) (fun _ _ _ h => h) (by rfl) (by (intro w' hw'; (try dsimp only at hw'); go_simp; try with_reducible rfl)) ?_
          try simp only [Act.put, List.setIfInBounds_toArray, List.set_cons_zero, List.set_cons_succ]
          refine T_takeC 8 hT rfl (by kernel_rfl) (by kernel_rfl) (by kernel_rfl) (by kernel_rfl) (fun _ _ _ h => h) (by rfl) (by (intro w' hw'; (try dsimp only at hw'); go_simp; try with_reducible rfl)) ?_
          try simp only [Act.put, List.setIfInBounds_toArray, List.set_cons_zero, List.set_cons_succ]
          refine T_one 9 rfl (by kernel_rfl) (by decide) (fun K hK => ?_)
          rw [if_pos (by rfl)]
          go_simp
          refine (int_c _ _).mono ?_
          rintro e w5 ⟨rfl, hb5⟩
          refine hK _ _ (Held.keep hb5 hT) (fun hT5 => ?_)
          try simp only [Act.put, List.setIfInBounds_toArray, List.set_cons_zero, List.set_cons_succ]
          clear hK hb5
          refine T_one 10 rfl (by kernel_rfl) (by decide) (fun K hK => ?_)
          rw [if_pos (by rfl)]
          go_simp
          refine hK _ _ hT5 (fun hT6 => ?_)
          try simp only [Act.put, List.setIfInBounds_toArray, List.set_cons_zero, List.set_cons_succ]
          clear hK
          refine T_last rfl (by kernel_rfl) (by kernel_rfl) (fun K hK => ?_)
          rw [if_pos (by rfl)]
          go_simp
          have HB5 := Lib.hid (HB.out.trans (hT5.2.mono HB.out.size))
          have hs0 := HS.out
          rw [if_neg (by rw [his]; decide)] at hs0
          have HS5 := Lib.hid (hs0.below hT5.2)
          clear hT hT6 hs0 hT5 j0 j1 j2 cz cz1 lb lib hi0 hi1 hbl
          refine (put_any hn0 hm10 HI.out (wf_wrap .i64 (zs[m].tmod 3)) HS5.out.vote).mono ?_
          rintro e w8 ⟨v8, wa8, la8, pb, rfl, hI8, hv8, hf8, hst⟩
          have HI8 := Lib.hid hI8
          have HS8 := Lib.hid (HS5.out.put hv8 hf8)
          have HB8 := Lib.hid (HB5.out.trans (hf8.below.mono (by omega)))
          have HST := Lib.hid hst
          clear hI8 hv8 hf8 hst HS5 HB5 HS HI HB
          refine hK _ _ ?_
          clear hK
          cases his8 : v8.is
          · have HIS8 := Lib.hid his8
            go_wp2_with fail
            refine (result_no _ _ _ _ _ HS8.out.vote HIS8.out).mono ?_
            rintro e w9 ⟨rfl, hb9⟩
            rw [zval]
            have hs9 := (HS8.out.below hb9).below (alloc_below w9 (.cells #[.int .u32 0, .int .u32 0, .int .u16 0, .int .i64 0, .int .i64 0, .int .i64 0, .float .f64 0, .string ⟨#[]⟩, .slice none 0 0] 32))
            have hb8 := HB8.out.trans ((hb9.trans ((alloc_below w9 (.cells #[.int .u32 0, .int .u32 0, .int .u16 0, .int .i64 0, .int .i64 0, .int .i64 0, .float .f64 0, .string ⟨#[]⟩, .slice none 0 0] 32)).mono hb9.size)).mono HB8.out.size)
            have HS9 := Lib.hid hs9
            have HB9 := Lib.hid hb8
            clear hs9 hb8 hb9
            go_wp2_with fail
            go_roundw
            case rel => exact ⟨m + 1, v8, wa8, la8, by omega, by rw [HIS8.out], by go_num, HI8.out, by rw [if_neg (by rw [HIS8.out]; decide)]; exact HS9.out, HB9.out⟩
            case measure => simp [intOf]; omega
          · have HIS8 := Lib.hid his8
            have hmem := HI8.out.l.2 _ (HI8.out.res his8)
            obtain ⟨_, hk1, hcf⟩ := hmem
            go_wp2_with fail
            refine (result_yes _ _ _ _ _ HS8.out.vote HIS8.out (by rw [hk1]; decide)).mono ?_
            rintro e w9 ⟨rfl, hb9⟩
            rw [hcf]
            generalize hr8 : v8.res = r8
            have HRE := Lib.hid hr8
            clear hr8 hcf hk1
            obtain ⟨rc, rs, rn, re, rk, ri, rf, rt⟩ := r8
            rw [show (Rp.mk rc rs rn re rk ri rf rt).val = .agg #[.int .u32 rc, .int .u32 rs, .int .u16 rn, .int .i64 re, .int .i64 rk, .int .i64 ri, .float .f64 rf, .string rt, .slice none 0 0] from rfl]
            have hs9 := (HS8.out.below hb9).below (alloc_below w9 (.cells #[.int .u32 rc, .int .u32 rs, .int .u16 rn, .int .i64 re, .int .i64 rk, .int .i64 ri, .float .f64 rf, .string rt, .slice none 0 0] 32))
            have hb8 := HB8.out.trans ((hb9.trans ((alloc_below w9 (.cells #[.int .u32 rc, .int .u32 rs, .int .u16 rn, .int .i64 re, .int .i64 rk, .int .i64 ri, .float .f64 rf, .string rt, .slice none 0 0] 32)).mono hb9.size)).mono HB8.out.size)
            have HS9 := Lib.hid hs9
            have HB9 := Lib.hid hb8
            have hn9 := heap_alloc_new w9 (.cells #[.int .u32 rc, .int .u32 rs, .int .u16 rn, .int .i64 re, .int .i64 rk, .int .i64 ri, .float .f64 rf, .string rt, .slice none 0 0] 32)
            have hz9 := hb9.size
            have hfl := lt_of_b (HS8.out.f)
            have hne9 : w9.heap.size ≠ w2.heap.size := by omega
            have hle9 : w.heap.size ≤ w2.heap.size := by omega
            clear hs9 hb8 hb9
            obtain ⟨⟨f0, f1, f2, f3, f4, f5, f6, f7, f8⟩, ff⟩ := cells_of_block9 HS9.out.f
            obtain ⟨⟨g0, g1, g2, g3, g4, g5, g6, g7, g8⟩, _⟩ := cells_of_block9 hn9
            go_wp2_with fail
            go_roundw
            case rel => exact ⟨m + 1, v8, wa8, la8, by omega, by rw [HIS8.out], by go_num, HI8.out, by rw [if_pos HIS8.out, HRE.out]; exact HS9.out.setF ⟨rc, rs, rn, re, rk, ri, rf, rt⟩, below9 HB9.out hle9 _ _ _ _ _ _ _ _ _⟩
            case measure => simp [intOf]; omega
        · have lb : b < wr.heap.size := Nat.lt_of_lt_of_le hbl hb.size
          have lib : w1.heap.size < wr.heap.size := World.block_lt_of_cell? _ _ j0
          have hi0 : (0 : Int) ≤ m := by omega
          have hi1 : (m : Int) < zs.length := by omega
          clear hb hinv
          go_wp2_with fail
          refine wp_region_T (fun w' => Held wr w') 11 (by kernel_rfl) Held.start (fun hT => ?_)
          refine T_takeC 0 hT rfl (by kernel_rfl) (by kernel_rfl) (by kernel_rfl) (by kernel_rfl) (fun _ _ _ h => h) (by rfl) (by (intro w' hw'; (try dsimp only at hw'); go_simp; try with_reducible rfl)) ?_
          try simp only [Act.put, List.setIfInBounds_toArray, List.set_cons_zero, List.set_cons_succ]
          refine T_takeC 1 hT rfl (by kernel_rfl) (by kernel_rfl) (by kernel_rfl) (by kernel_rfl) (fun _ _ _ h => h) (by rfl) (by (intro w' hw'; (try dsimp only at hw'); go_simp; try with_reducible rfl)) ?_
          try simp only [Act.put, List.setIfInBounds_toArray, List.set_cons_zero, List.set_cons_succ]
          refine T_takeC 2 hT rfl (by kernel_rfl) (by kernel_rfl) (by kernel_rfl) (by kernel_rfl) (fun _ _ _ h => h) (by rfl) (by (intro w' hw'; (try dsimp only at hw'); go_simp; try with_reducible rfl)) ?_
          try simp only [Act.put, List.setIfInBounds_toArray, List.set_cons_zero, List.set_cons_succ]
          refine T_takeC 3 hT rfl (by kernel_rfl) (by kernel_rfl) (by kernel_rfl) (by kernel_rfl) (fun _ _ _ h => h) (by rfl) (by (intro w' hw'; (try dsimp only at hw'); go_simp; try with_reducible rfl)) ?_
          try simp only [Act.put, List.setIfInBounds_toArray, List.set_cons_zero, List.set_cons_succ]
          refine T_takeC 4 hT rfl (by kernel_rfl) (by kernel_rfl) (by kernel_rfl) (by kernel_rfl) (fun _ _ _ h => h) (by rfl) (by (intro w' hw'; (try dsimp only at hw'); go_simp; try with_reducible rfl)) ?_
          try simp only [Act.put, List.setIfInBounds_toArray, List.set_cons_zero, List.set_cons_succ]
          refine T_takeC 5 hT rfl (by kernel_rfl) (by kernel_rfl) (by kernel_rfl) (by kernel_rfl) (fun _ _ _ h => h) (by rfl) (by (intro w' hw'; (try dsimp only at hw'); go_simp; try with_reducible rfl)) ?_
          try simp only [Act.put, List.setIfInBounds_toArray, List.set_cons_zero, List.set_cons_succ]
          refine T_takeC 6 hT rfl (by kernel_rfl) (by kernel_rfl) (by kernel_rfl) (by kernel_rfl) (fun _ _ _ h => h) (by rfl) (by (intro w' hw'; (try dsimp only at hw'); go_simp; try with_reducible rfl)) ?_
          try simp only [Act.put, List.setIfInBounds_toArray, List.set_cons_zero, List.set_cons_succ]
          refine T_takeC 7 hT rfl (by kernel_rfl) (by kernel_rfl) (by kernel_rfl) (by kernel_rfl) (fun _ _ _ h => h) (by rfl) (by (intro w' hw'; (try dsimp only at hw'); go_simp; try with_reducible rfl)) ?_
          try simp only [Act.put, List.setIfInBounds_toArray, List.set_cons_zero, List.set_cons_succ]
          refine T_takeC 8 hT rfl (by kernel_rfl) (by kernel_rfl) (by kernel_rfl) (by kernel_rfl) (fun _ _ _ h => h) (by rfl) (by (intro w' hw'; (try dsimp only at hw'); go_simp; try with_reducible rfl)) ?_
          try simp only [Act.put, List.setIfInBounds_toArray, List.set_cons_zero, List.set_cons_succ]
          refine T_one 9 rfl (by kernel_rfl) (by decide) (fun K hK => ?_)
          rw [if_pos (by rfl)]
          go_simp
          refine (int_c _ _).mono ?_
          rintro e w5 ⟨rfl, hb5⟩
          refine hK _ _ (Held.keep hb5 hT) (fun hT5 => ?_)
          try simp only [Act.put, List.setIfInBounds_toArray, List.set_cons_zero, List.set_cons_succ]
          clear hK hb5
          refine T_one 10 rfl (by kernel_rfl) (by decide) (fun K hK => ?_)
          rw [if_pos (by rfl)]
          go_simp
          refine hK _ _ hT5 (fun hT6 => ?_)
          try simp only [Act.put, List.setIfInBounds_toArray, List.set_cons_zero, List.set_cons_succ]
          clear hK
          refine T_last rfl (by kernel_rfl) (by kernel_rfl) (fun K hK => ?_)
          rw [if_pos (by rfl)]
          go_simp
          have HB5 := Lib.hid (HB.out.trans (hT5.2.mono HB.out.size))
          have hs0 := HS.out
          rw [if_pos his] at hs0
          have HS5 := Lib.hid (hs0.below hT5.2)
          clear hT hT6 hs0 hT5 j0 j1 j2 cz cz1 lb lib hi0 hi1 hbl
          refine (put_any hn0 hm10 HI.out (wf_wrap .i64 (zs[m].tmod 3)) HS5.out.vote).mono ?_
          rintro e w8 ⟨v8, wa8, la8, pb, rfl, hI8, hv8, hf8, hst⟩
          have HI8 := Lib.hid hI8
          have HS8 := Lib.hid (HS5.out.put hv8 hf8)
          have HB8 := Lib.hid (HB5.out.trans (hf8.below.mono (by omega)))
          have HST := Lib.hid hst
          clear hI8 hv8 hf8 hst HS5 HB5 HS HI HB
          refine hK _ _ ?_
          clear hK
          obtain ⟨his8, hres8⟩ := HST.out his
          have HIS8 := Lib.hid his8
          have hmem := HI8.out.l.2 _ (HI8.out.res his8)
          obtain ⟨hok, hk1, hcf⟩ := hmem
          rw [hres8] at hok hk1 hcf
          have HS8' := Lib.hid HS8.out
          go_wp2_with fail
          refine (result_yes _ _ _ _ _ HS8.out.vote HIS8.out (by rw [hres8, hk1]; decide)).mono ?_
          rintro e w9 ⟨rfl, hb9⟩
          rw [hres8, hcf]
          generalize hr8 : v.res = r8 at hok hres8 HS8
          have HRE := Lib.hid hres8
          clear hr8 hcf hk1 hres8 HS8'
          obtain ⟨rc, rs, rn, re, rk, ri, rf, rt⟩ := r8
          rw [show (Rp.mk rc rs rn re rk ri rf rt).val = .agg #[.int .u32 rc, .int .u32 rs, .int .u16 rn, .int .i64 re, .int .i64 rk, .int .i64 ri, .float .f64 rf, .string rt, .slice none 0 0] from rfl]
          have hs9 := (HS8.out.below hb9).below (alloc_below w9 (.cells #[.int .u32 rc, .int .u32 rs, .int .u16 rn, .int .i64 re, .int .i64 rk, .int .i64 ri, .float .f64 rf, .string rt, .slice none 0 0] 32))
          have hb8 := HB8.out.trans ((hb9.trans ((alloc_below w9 (.cells #[.int .u32 rc, .int .u32 rs, .int .u16 rn, .int .i64 re, .int .i64 rk, .int .i64 ri, .float .f64 rf, .string rt, .slice none 0 0] 32)).mono hb9.size)).mono HB8.out.size)
          have HS9 := Lib.hid hs9
          have HB9 := Lib.hid hb8
          have hn9 := heap_alloc_new w9 (.cells #[.int .u32 rc, .int .u32 rs, .int .u16 rn, .int .i64 re, .int .i64 rk, .int .i64 ri, .float .f64 rf, .string rt, .slice none 0 0] 32)
          have HOK := Lib.hid hok
          clear hs9 hb8 hb9 hok
          obtain ⟨⟨f0, f1, f2, f3, f4, f5, f6, f7, f8⟩, _⟩ := cells_of_block9 HS9.out.f
          obtain ⟨⟨g0, g1, g2, g3, g4, g5, g6, g7, g8⟩, _⟩ := cells_of_block9 hn9
          go_wp2_with fail
          refine (reply_self ⟨rc, rs, rn, re, rk, ri, rf, rt⟩ HOK.out _).mono ?_
          rintro e w10 ⟨rfl, hb10⟩
          have HS10 := Lib.hid (HS9.out.below hb10)
          have HB10 := Lib.hid (HB9.out.trans (hb10.mono HB9.out.size))
          clear f0 f1 f2 f3 f4 f5 f6 f7 f8 g0 g1 g2 g3 g4 g5 g6 g7 g8 hb10 hn9
          go_wp2_with fail
          go_roundw
          case rel => exact ⟨m + 1, v8, wa8, la8, by omega, by rw [HIS8.out], by go_num, HI8.out, by rw [if_pos HIS8.out, HRE.out]; exact HS10.out, HB10.out⟩
          case measure => simp [intOf]; omega
      · have hm' : m = zs.length := by omega
        clear hinv hsin hb
        go_wp2_with fail
        go_ret
        exact ⟨rfl, HB.out⟩
end Go.Proofs.Ytbncfpbaifnikaa
