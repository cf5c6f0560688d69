/- What a vote comes to. -/
import Derived.Test.YtbncfpbaifnikaaL
import Derived.Test.YtbncfpbaifnikaaO
namespace Go.Proofs.Ytbncfpbaifnikaa
open Go Go.RowKit
attribute [local go_sem ↓] run_store_float

def zeroR : Rp := ⟨0, 0, 0, 0, 0, 0, 0, ⟨#[]⟩⟩
abbrev zcells : Array Value := #[.int .u32 0, .int .u32 0, .int .u16 0, .int .i64 0, .int .i64 0, .int .i64 0, .float .f64 0, .string ⟨#[]⟩, .slice none 0 0]
def needI (p n : Int) : Int := if p = 1 then nodesI n / 2 + 1 else if p = 2 then n else 1
/-- The first reply that so many are like. -/
def firstR (need : Int) (l : List Rp) : Option Rp := l.find? (fun r => decide (need ≤ likeN l r))
def decR (need : Int) (l : List Rp) : Rp × Bool := match firstR need l with | some r => (r, true) | none => (zeroR, false)

theorem find_at {α} (p : α → Bool) : ∀ (l : List α) (m : Nat) (hm : m < l.length), (∀ j, j < m → ∀ h : j < l.length, p l[j] = false) → p l[m] = true → l.find? p = some l[m]
  | [], _, hm, _, _ => by simp at hm
  | x :: xs, 0, _, _, h => by simp at h; simp [h]
  | x :: xs, m + 1, hm, hn, h => by
    have h0 := hn 0 (by omega) (by simp)
    simp only [List.getElem_cons_zero] at h0
    rw [List.find?_cons, h0]
    simp only [List.getElem_cons_succ] at h ⊢
    exact find_at p xs m (by simpa using hm) (fun j hj hh => by have := hn (j + 1) (by omega) (by simpa using hh); simpa using this) h
theorem find_no {α} (p : α → Bool) (l : List α) (h : ∀ j, j < l.length → ∀ h : j < l.length, p l[j] = false) : l.find? p = none := by
  rw [List.find?_eq_none]
  intro x hx
  obtain ⟨j, hj, rfl⟩ := List.getElem_of_mem hx
  simp [h j hj hj]

theorem cells_of_block9 {w : World} {b : Nat} {z0 z1 z2 z3 z4 z5 z6 z7 z8 : Value} {e : TypeId} (h : w.heap[b]? = some (.cells #[z0, z1, z2, z3, z4, z5, z6, z7, z8] e)) :
    (w.cell? ⟨b, 0, none⟩ = some z0 ∧ w.cell? ⟨b, 1, none⟩ = some z1 ∧ w.cell? ⟨b, 2, none⟩ = some z2 ∧ w.cell? ⟨b, 3, none⟩ = some z3 ∧ w.cell? ⟨b, 4, none⟩ = some z4 ∧ w.cell? ⟨b, 5, none⟩ = some z5 ∧ w.cell? ⟨b, 6, none⟩ = some z6 ∧ w.cell? ⟨b, 7, none⟩ = some z7 ∧ w.cell? ⟨b, 8, none⟩ = some z8) ∧ (∀ n, w.frozen? ⟨b, n, none⟩ = false) :=
  ⟨⟨by simp [World.cell?, h], by simp [World.cell?, h], by simp [World.cell?, h], by simp [World.cell?, h], by simp [World.cell?, h], by simp [World.cell?, h], by simp [World.cell?, h], by simp [World.cell?, h], by simp [World.cell?, h]⟩, fun n => by simp [World.frozen?, h]⟩
theorem below9 {B : Nat} {w w1 : World} (h : Below B w w1) {b : Nat} (hb : B ≤ b) (u0 u1 u2 u3 u4 u5 u6 u7 u8 : Value) :
    Below B w (((((((((w1.setCell ⟨b, 0, none⟩ u0).setCell ⟨b, 1, none⟩ u1).setCell ⟨b, 2, none⟩ u2).setCell ⟨b, 3, none⟩ u3).setCell ⟨b, 4, none⟩ u4).setCell ⟨b, 5, none⟩ u5).setCell ⟨b, 6, none⟩ u6).setCell ⟨b, 7, none⟩ u7).setCell ⟨b, 8, none⟩ u8) :=
  ((((((((h.setCell hb _).setCell hb _).setCell hb _).setCell hb _).setCell hb _).setCell hb _).setCell hb _).setCell hb _).setCell hb _

theorem decide_c (vb : Nat) (a : Option Addr) (cp : Nat) (l : List Rp) (n p : Int) (w : World) (hl : l.length ≤ 100) (hn : 1 ≤ n ∧ n ≤ 7) (hok : ∀ x ∈ l, x.ok) (hv : w.cell? ⟨vb, 6, none⟩ = some (.slice a l.length cp))
    (hvn : w.cell? ⟨vb, 3, none⟩ = some (.int .i64 n)) (hvp : w.cell? ⟨vb, 4, none⟩ = some (.int .i64 p)) (hc : RIn w a l) :
    Calls Try.prog 31 #[.pointer (some ⟨vb, 0, none⟩)] w fun e w' => e = .returned (.tuple #[(decR (needI p n) l).1.val, .bool (decR (needI p n) l).2]) ∧ Below w.heap.size w w' := by
  have HC := Lib.hid hc
  have HOK := Lib.hid hok
  have hvl : vb < w.heap.size := World.block_lt_of_cell? _ _ hv
  have HV := Lib.hid hv
  clear hc hok
  generalize hd : decR (needI p n) l = d
  have HD := Lib.hid hd.symm
  clear hd
  obtain ⟨need, hneed⟩ : ∃ x, x = needI p n := ⟨_, rfl⟩
  rw [← hneed] at HD
  have hnb := nodesI_le n
  have hcases : (p = 1 ∧ need = nodesI n / 2 + 1) ∨ (p = 2 ∧ need = n) ∨ ((p == 1) = false ∧ (p == 2) = false ∧ need = 1) := by
    unfold needI at hneed
    by_cases h1 : p = 1
    · exact .inl ⟨h1, by rw [hneed, if_pos h1]⟩
    · by_cases h2 : p = 2
      · exact .inr (.inl ⟨h2, by rw [hneed, if_neg h1, if_pos h2]⟩)
      · exact .inr (.inr ⟨by simpa using h1, by simpa using h2, by rw [hneed, if_neg h1, if_neg h2]⟩)
  clear hneed
  rcases hcases with ⟨rfl, he⟩ | ⟨rfl, he⟩ | ⟨hp1, hp2, he⟩
  all_goals
    go_enter Try.func31, Try.ntmps31
    go_wp2_with (go_at_call 46; refine (need2_c _ _).mono ?_; rintro e w1 ⟨rfl, rfl⟩)
    go_loopw [29] (fun j wr => ∃ m : Nat, m ≤ l.length ∧ j = .int .i64 m ∧ Hid (∀ j, j < m → ∀ h : j < l.length, decide (need ≤ likeN l l[j]) = false) ∧ Below w.heap.size w wr ∧ Hid (wr.heap[w.heap.size]? = some (.cells zcells 32))) (fun j _ => l.length - (intOf j).toNat)
    case atStart => exact ⟨0, by omega, rfl, fun j h => by omega, (Below.refl _ _).alloc (Nat.le_refl _) _, heap_alloc_new w _⟩
    case round =>
      obtain ⟨m, hm, rfl, HNO, hb, HZ⟩ := hrel
      have HB := Lib.hid hb
      have hvl2 : vb < wr.heap.size := Nat.lt_of_lt_of_le hvl hb.size
      have hv2 := keepc hb HV.out
      obtain ⟨⟨z0, z1, z2, z3, z4, z5, z6, z7, z8⟩, hfz⟩ := cells_of_block9 HZ.out
      by_cases hlt : m < l.length
      · obtain ⟨b, o, rfl, c0, c1, c2, c3, c4, c5, c6, c7, c8⟩ := HC.out.below hb m hlt
        have hbl : b < wr.heap.size := World.block_lt_of_cell? wr _ c0
        have HLK := Lib.hid (HOK.out _ (List.getElem_mem hlt))
        clear hb z0 z1 z2 z3 z4 z5 z6 z7 z8 hfz
        have hbw : Below wr.heap.size wr (wr.alloc (.cells #[.int .u32 l[m].c, .int .u32 l[m].s, .int .u16 l[m].n, .int .i64 l[m].e, .int .i64 l[m].k, .int .i64 l[m].i, .float .f64 l[m].f, .string l[m].t, .slice none 0 0] 32)) := (Below.refl _ _).alloc (Nat.le_refl _) _
        have HBW := Lib.hid hbw
        have HR9 := Lib.hid (at9.new (w := wr) (r := l[m]) (t := 32))
        have HRI := Lib.hid (HC.out.below (HB.out))
        have hwz : w.heap.size < wr.heap.size := World.block_lt_of_cell? wr _ (cells_of_block9 HZ.out).1.1
        clear hbw
        by_cases hx : need ≤ likeN l l[m]
        · have HF := Lib.hid (find_at (fun r => decide (need ≤ likeN l r)) l m hlt HNO.out (by simpa using hx))
          go_wp2_with fail
          refine (like_c vb _ cp l l[m] _ hl HOK.out HLK.out (keepc HBW.out hv2) (HRI.out.below HBW.out)).mono ?_
          rintro e w1 ⟨rfl, hb1⟩
          have hz1 := block_below hb1 (block_below HBW.out HZ.out)
          obtain ⟨⟨z0, z1, z2, z3, z4, z5, z6, z7, z8⟩, hfz⟩ := cells_of_block9 hz1
          obtain ⟨r0, r1, r2, r3, r4, r5, r6, r7, r8⟩ := HR9.out.keep hb1
          have HB1 := Lib.hid ((HB.out.trans (HBW.out.mono HB.out.size)).trans (hb1.mono (Nat.le_trans HB.out.size HBW.out.size)))
          have hs1 : wr.heap.size < w1.heap.size := World.block_lt_of_cell? w1 _ r0
          clear hb1 hz1 c0 c1 c2 c3 c4 c5 c6 c7 c8 hv2
          go_wp2_with fail
          refine bodyPost_ret (v := .tuple #[l[m].val, .bool true]) (by simp [results, Try.results31, go_sem, z0, z1, z2, z3, z4, z5, z6, z7, z8]) rfl ⟨?_, below9 HB1.out (Nat.le_refl _) _ _ _ _ _ _ _ _ _⟩
          rw [HD.out, decR, firstR, HF.out]
        · have HX := Lib.hid (show decide (need ≤ likeN l l[m]) = false by simpa using hx)
          go_wp2_with fail
          refine (like_c vb _ cp l l[m] _ hl HOK.out HLK.out (keepc HBW.out hv2) (HRI.out.below HBW.out)).mono ?_
          rintro e w1 ⟨rfl, hb1⟩
          have HZ1 := Lib.hid (block_below hb1 (block_below HBW.out HZ.out))
          have HB1 := Lib.hid ((HB.out.trans (HBW.out.mono HB.out.size)).trans (hb1.mono (Nat.le_trans HB.out.size HBW.out.size)))
          clear hb1 c0 c1 c2 c3 c4 c5 c6 c7 c8 hv2
          go_wp2_with fail
          go_roundw
          case rel =>
            refine ⟨m + 1, by omega, by go_num, fun j hj hjl => ?_, HB1.out, HZ1.out⟩
            by_cases e : j = m
            · subst e; exact HX.out
            · exact HNO.out j (by omega) hjl
          case measure => simp [intOf]; omega
      · have HF := Lib.hid (find_no (fun r => decide (need ≤ likeN l r)) l (fun j hj hjl => HNO.out j (by omega) hjl))
        clear hb
        go_wp2_with fail
        refine bodyPost_ret (v := .tuple #[zeroR.val, .bool false]) (by simp [results, Try.results31, go_sem, z0, z1, z2, z3, z4, z5, z6, z7, z8, zeroR]) rfl ⟨?_, below9 HB.out (Nat.le_refl _) _ _ _ _ _ _ _ _ _⟩
        rw [HD.out, decR, firstR, HF.out]
end Go.Proofs.Ytbncfpbaifnikaa
