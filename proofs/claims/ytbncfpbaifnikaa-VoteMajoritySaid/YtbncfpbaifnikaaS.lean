/- The vote's other methods. -/
import Derived.Test.YtbncfpbaifnikaaQ
import Derived.Deep.QuietTactic
import Derived.BigQuiet
namespace Go.Proofs.Ytbncfpbaifnikaa
open Go Go.RowKit
attribute [local go_sem ↓] run_store_float

theorem put_id (vb : Nat) (v : Vt) (wa la : Value) (x : Int) (r : Rp) (w : World) (h : VoteIn w vb v wa la) (hid : r.c ≠ v.c) :
    Calls Try.prog 14 #[.pointer (some ⟨vb, 0, none⟩), .int .i64 x, r.val] w (PutPost w vb v wa la false) := by
  have hvb := h.lt
  have H := Lib.hid h
  obtain ⟨⟨v0, v1, v2, v3, v4, v5, v6, v7⟩, hfz⟩ := h.own
  have hc : (r.c == v.c) = false := by simpa using hid
  have HB0 := Lib.hid (alloc_below w (.cells #[.int .u32 r.c, .int .u32 r.s, .int .u16 r.n, .int .i64 r.e, .int .i64 r.k, .int .i64 r.i, .float .f64 r.f, .string r.t, .slice none 0 0] 32))
  clear h hid
  go_enter Try.func14, Try.ntmps14
  go_wp2_with fail
  go_quiet (fail)
  go_wp2_with fail
  go_ret
  have hb := Lib.hid (below_drewN HB0.out nq)
  exact ⟨wa, la, rfl, H.out.below hb.out, VFr.of_below hvb hb.out⟩

theorem put_ge (vb : Nat) (v : Vt) (wa la : Value) (x : Int) (r : Rp) (w : World) (h : VoteIn w vb v wa la) (hid : r.c = v.c ∧ r.s = v.s ∧ r.n = v.e) (hx0 : 0 ≤ x) (hxn : v.n ≤ x) :
    Calls Try.prog 14 #[.pointer (some ⟨vb, 0, none⟩), .int .i64 x, r.val] w (PutPost w vb v wa la false) := by
  have hvb := h.lt
  have H := Lib.hid h
  obtain ⟨⟨v0, v1, v2, v3, v4, v5, v6, v7⟩, hfz⟩ := h.own
  obtain ⟨e1, e2, e3⟩ := hid
  rw [← e1] at v0; rw [← e2] at v1; rw [← e3] at v2
  have hd1 : decide (x < 0) = false := by simpa using hx0
  have hd2 : decide (v.n ≤ x) = true := by simpa using hxn
  have HB0 := Lib.hid (alloc_below w (.cells #[.int .u32 r.c, .int .u32 r.s, .int .u16 r.n, .int .i64 r.e, .int .i64 r.k, .int .i64 r.i, .float .f64 r.f, .string r.t, .slice none 0 0] 32))
  clear h e1 e2 e3
  go_enter Try.func14, Try.ntmps14
  go_wp2_with fail
  go_quiet (fail)
  go_wp2_with fail
  go_ret
  have hb := Lib.hid (below_drewN HB0.out nq)
  exact ⟨wa, la, rfl, H.out.below hb.out, VFr.of_below hvb hb.out⟩

theorem put_dup (vb : Nat) (v : Vt) (wa la : Value) (x : Int) (r : Rp) (w : World) (h : VoteIn w vb v wa la) (hid : r.c = v.c ∧ r.s = v.s ∧ r.n = v.e) (hx0 : 0 ≤ x) (hxn : x < v.n) (hx : x ∈ v.who) (hlen : v.who.length ≤ 50) :
    Calls Try.prog 14 #[.pointer (some ⟨vb, 0, none⟩), .int .i64 x, r.val] w (PutPost w vb v wa la false) := by
  obtain ⟨a1, c1, hwa⟩ := h.wa
  have HWC := Lib.hid (h.whoCells hwa)
  have hvb := h.lt
  have H := Lib.hid h
  obtain ⟨⟨v0, v1, v2, v3, v4, v5, v6, v7⟩, hfz⟩ := h.own
  obtain ⟨e1, e2, e3⟩ := hid
  subst hwa
  rw [← e1] at v0; rw [← e2] at v1; rw [← e3] at v2
  have hd1 : decide (x < 0) = false := by simpa using hx0
  have hd2 : decide (v.n ≤ x) = false := by simpa using hxn
  have hxd : decide (x ∈ v.who) = true := by simpa using hx
  have HB0 := Lib.hid (alloc_below w (.cells #[.int .u32 r.c, .int .u32 r.s, .int .u16 r.n, .int .i64 r.e, .int .i64 r.k, .int .i64 r.i, .float .f64 r.f, .string r.t, .slice none 0 0] 32))
  clear h e1 e2 e3 hx
  go_enter Try.func14, Try.ntmps14
  go_wp2_with fail
  go_region_held3 (fun w' => Held (w.alloc (.cells #[.int .u32 r.c, .int .u32 r.s, .int .u16 r.n, .int .i64 r.e, .int .i64 r.k, .int .i64 r.i, .float .f64 r.f, .string r.t, .slice none 0 0] 32)) w') (first | assumption | exact Held.start)
    (first | (go_at_call 29; refine (contains_c _ _ v.who x _ (by omega) ?_).mono ?_; (intro j hj; obtain ⟨b, o, e, hc⟩ := HWC.out j hj; exact ⟨b, o, e, keepc ((by assumption : Held _ _).2) (keepc HB0.out hc)⟩); rintro e w5 ⟨rfl, rfl⟩))
  go_wp2_with fail
  go_ret
  have hb := Lib.hid (HB0.out.drew)
  exact ⟨_, la, rfl, H.out.below hb.out, VFr.of_below hvb hb.out⟩

theorem new_c (c s e n p : Int) (w : World) : Calls Try.prog 13 #[.agg #[.int .u32 c, .int .u32 s, .int .u16 e], .int .i64 n, .int .i64 p] w
    fun x w' => x = .returned (.pointer (some ⟨w.heap.size + 1, 0, none⟩)) ∧ VoteIn w' (w.heap.size + 1) ⟨c, s, e, nodesI n, p, [], [], false, zeroR⟩ (.slice none 0 0) (.slice none 0 0) ∧ Below w.heap.size w w' := by
  rcases (show (n < 1 ∧ nodesI n = 1) ∨ (7 < n ∧ nodesI n = 7) ∨ ((1 ≤ n ∧ n ≤ 7) ∧ nodesI n = n) by unfold nodesI; omega) with ⟨h, e1⟩ | ⟨h, e1⟩ | ⟨h, e1⟩
  all_goals
    have HN := Lib.hid e1
    clear e1
    go_enter Try.func13, Try.ntmps13
    go_wp2_with fail
    go_ret
    refine ⟨rfl, ⟨?_, World.ownsRow_nil _ _ _ _, World.ownsRow_nil _ _ _ _, fun b h => by cases h⟩, ((Below.refl _ _).alloc (Nat.le_refl _) _).alloc (by simp) _⟩
    rw [HN.out]
    exact block_alloc_at _ (by simp)

theorem count_c (vb : Nat) (v : Vt) (wa la : Value) (w : World) (h : VoteIn w vb v wa la) : Calls Try.prog 20 #[.pointer (some ⟨vb, 0, none⟩)] w fun e w' => e = .returned (.int .i64 v.l.length) ∧ w = w' := by
  obtain ⟨a2, c2, hla⟩ := h.la
  obtain ⟨⟨v0, v1, v2, v3, v4, v5, v6, v7⟩, hfz⟩ := h.own
  subst hla
  clear h
  go_enter Try.func20, Try.ntmps20
  go_wp2_with fail
  go_ret
  exact ⟨rfl, rfl⟩
end Go.Proofs.Ytbncfpbaifnikaa
