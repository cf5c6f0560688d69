/- A vote in memory; how many replies are like one; what it came to. -/
import Derived.Test.YtbncfpbaifnikaaK
import Derived.Deep.AppendLies
namespace Go.Proofs.Ytbncfpbaifnikaa
open Go Go.RowKit
attribute [local go_sem ↓] run_store_float

/-- A flat reply. -/
structure Rp where
  (c s n e k i : Int)
  f : Nat
  t : ByteArray
def Rp.v (r : Rp) : V := .mk r.k r.i r.f r.t []
def Rp.ok (r : Rp) : Prop := (Lit.int .i64 r.k).wf = true ∧ (Lit.int .i64 r.i).wf = true ∧ r.f < 2 ^ 64 ∧ r.t.size ≤ 140737488351232
theorem Rp.vin {r : Rp} (h : r.ok) {D w} : VIn D w r.v (.slice none 0 0) := VIn.of ⟨h.1, h.2.1, h.2.2.1, h.2.2.2, by decide, none, 0, rfl, by decide, by decide, fun _ => rfl, .inl rfl⟩
abbrev Rp.val (r : Rp) : Value := .agg #[.int .u32 r.c, .int .u32 r.s, .int .u16 r.n, .int .i64 r.e, .int .i64 r.k, .int .i64 r.i, .float .f64 r.f, .string r.t, .slice none 0 0]
def Rp.cells (r : Rp) : List Value := [.int .u32 r.c, .int .u32 r.s, .int .u16 r.n, .int .i64 r.e, .int .i64 r.k, .int .i64 r.i, .float .f64 r.f, .string r.t, .slice none 0 0]
def Rp.alike (a b : Rp) : Bool := idEq a.c a.s a.n b.c b.s b.n && (a.e == b.e && a.v.ord b.v == 0)
def likeN (l : List Rp) (r : Rp) : Nat := l.countP (fun x => x.alike r)

/-- Element j of the replies lies at a. -/
def RIn (w : World) (a : Option Addr) (l : List Rp) : Prop := ∀ j (h : j < l.length), ∃ b o, a = some ⟨b, o, none⟩ ∧
  w.cell? ⟨b, o + j * 9, none⟩ = some (.int .u32 l[j].c) ∧ w.cell? ⟨b, o + j * 9 + 1, none⟩ = some (.int .u32 l[j].s) ∧ w.cell? ⟨b, o + j * 9 + 2, none⟩ = some (.int .u16 l[j].n) ∧
  w.cell? ⟨b, o + j * 9 + 3, none⟩ = some (.int .i64 l[j].e) ∧ w.cell? ⟨b, o + j * 9 + 4, none⟩ = some (.int .i64 l[j].k) ∧ w.cell? ⟨b, o + j * 9 + 5, none⟩ = some (.int .i64 l[j].i) ∧
  w.cell? ⟨b, o + j * 9 + 6, none⟩ = some (.float .f64 l[j].f) ∧ w.cell? ⟨b, o + j * 9 + 7, none⟩ = some (.string l[j].t) ∧ w.cell? ⟨b, o + j * 9 + 8, none⟩ = some (.slice none 0 0)
theorem RIn.below {w w' a l} (h : RIn w a l) (hb : Below w.heap.size w w') : RIn w' a l := fun j hj => by
  obtain ⟨b, o, e, h0, h1, h2, h3, h4, h5, h6, h7, h8⟩ := h j hj
  exact ⟨b, o, e, keepc hb h0, keepc hb h1, keepc hb h2, keepc hb h3, keepc hb h4, keepc hb h5, keepc hb h6, keepc hb h7, keepc hb h8⟩

/-- A reply's nine cells lie at block b, from o on. -/
abbrev at9 (w : World) (b : Nat) (r : Rp) : Prop :=
  w.cell? ⟨b, 0, none⟩ = some (.int .u32 r.c) ∧ w.cell? ⟨b, 1, none⟩ = some (.int .u32 r.s) ∧ w.cell? ⟨b, 2, none⟩ = some (.int .u16 r.n) ∧ w.cell? ⟨b, 3, none⟩ = some (.int .i64 r.e) ∧
  w.cell? ⟨b, 4, none⟩ = some (.int .i64 r.k) ∧ w.cell? ⟨b, 5, none⟩ = some (.int .i64 r.i) ∧ w.cell? ⟨b, 6, none⟩ = some (.float .f64 r.f) ∧ w.cell? ⟨b, 7, none⟩ = some (.string r.t) ∧ w.cell? ⟨b, 8, none⟩ = some (.slice none 0 0)
theorem at9.keep {w w1 : World} (hb : Below w.heap.size w w1) {b r} (h : at9 w b r) : at9 w1 b r := by
  obtain ⟨h0, h1, h2, h3, h4, h5, h6, h7, h8⟩ := h
  exact ⟨keepc hb h0, keepc hb h1, keepc hb h2, keepc hb h3, keepc hb h4, keepc hb h5, keepc hb h6, keepc hb h7, keepc hb h8⟩

theorem at9.new {w : World} {r : Rp} {t : TypeId} : at9 (w.alloc (.cells #[.int .u32 r.c, .int .u32 r.s, .int .u16 r.n, .int .i64 r.e, .int .i64 r.k, .int .i64 r.i, .float .f64 r.f, .string r.t, .slice none 0 0] t)) w.heap.size r := by
  refine ⟨?_, ?_, ?_, ?_, ?_, ?_, ?_, ?_, ?_⟩ <;> simp

theorem alikeF_c (a b : Rp) (ha : a.ok) (hb : b.ok) (w : World) : Calls Try.prog 10 #[a.val, b.val] w fun e w' => e = .returned (.bool (a.alike b)) ∧ Below w.heap.size w w' :=
  alike2_c a.c a.s a.n a.e a.v (.slice none 0 0) b.c b.s b.n b.e b.v (.slice none 0 0) w (fun _ => True) (fun _ => True) (Rp.vin ha) (Rp.vin hb)

theorem countP_take (p : Rp → Bool) (l : List Rp) (j : Nat) (hj : j < l.length) : (l.take (j + 1)).countP p = (l.take j).countP p + if p l[j] then 1 else 0 := by
  rw [List.take_succ_eq_append_getElem hj, List.countP_append, List.countP_singleton]

theorem like_c (vb : Nat) (a : Option Addr) (cp : Nat) (l : List Rp) (r : Rp) (w : World) (hl : l.length ≤ 100) (hok : ∀ x ∈ l, x.ok) (hr : r.ok) (hv : w.cell? ⟨vb, 6, none⟩ = some (.slice a l.length cp)) (hc : RIn w a l) :
    Calls Try.prog 47 #[.pointer (some ⟨vb, 0, none⟩), r.val] w fun e w' => e = .returned (.int .i64 (likeN l r)) ∧ Below w.heap.size w w' := by
  have HC := Lib.hid hc
  have HOK := Lib.hid hok
  have HR := Lib.hid hr
  have hvl : vb < w.heap.size := World.block_lt_of_cell? _ _ hv
  clear hc hok hr
  go_enter Try.func47, Try.ntmps47
  go_wp2_with fail
  go_loopw [5, 13] (fun n j wr => ∃ m : Nat, m ≤ l.length ∧ j = .int .i64 m ∧ n = .int .i64 ((l.take m).countP (fun x => x.alike r)) ∧ Below w.heap.size w wr ∧ w.heap.size < wr.heap.size ∧
      at9 wr w.heap.size r) (fun _ j _ => l.length - (intOf j).toNat)
  case atStart => exact ⟨0, by omega, rfl, by simp, (Below.refl _ _).alloc (Nat.le_refl _) _, by simp, at9.new⟩
  case round =>
    obtain ⟨m, hm, rfl, rfl, hb, hz, h9⟩ := hrel
    obtain ⟨r0, r1, r2, r3, r4, r5, r6, r7, r8⟩ := id h9
    have H9 := Lib.hid h9
    clear h9
    have hcnt : (l.take m).countP (fun x => x.alike r) ≤ 100 := by have := List.countP_le_length (p := fun x : Rp => x.alike r) (l := l.take m); rw [List.length_take] at this; omega
    have HB := Lib.hid hb
    by_cases hlt : m < l.length
    · obtain ⟨b, o, rfl, c0, c1, c2, c3, c4, c5, c6, c7, c8⟩ := HC.out.below hb m hlt
      have hbl : b < wr.heap.size := World.block_lt_of_cell? wr _ c0
      have HM := Lib.hid (countP_take (fun x => x.alike r) l m hlt)
      have HLK := Lib.hid (HOK.out _ (List.getElem_mem hlt))
      clear hb
      cases hx : l[m].alike r
      all_goals
        go_wp2_with fail
        refine (alikeF_c l[m] r HLK.out HR.out _).mono ?_
        rintro e w1 ⟨rfl, hb1⟩
        have HB1 := Lib.hid (((Below.refl wr.heap.size wr).alloc (Nat.le_refl _) _).trans (hb1.mono (by simp)))
        have hz1 : w.heap.size < w1.heap.size := Nat.lt_of_lt_of_le hz HB1.out.size
        clear hb1 r0 r1 r2 r3 r4 r5 r6 r7 r8 c0 c1 c2 c3 c4 c5 c6 c7 c8
        go_wp2_with fail
        go_roundw
        case rel => exact ⟨m + 1, by omega, by go_num, by rw [HM.out, hx]; simp, HB.out.trans (HB1.out.mono HB.out.size), hz1, H9.out.keep HB1.out⟩
        case measure => simp [intOf]; omega
    · have hm' : m = l.length := by omega
      subst hm'
      clear hb
      go_wp2_with fail
      go_ret
      exact ⟨ret_int (by simp [likeN]), HB.out⟩
end Go.Proofs.Ytbncfpbaifnikaa
