/- A vote in memory: its parts added to. -/
import Derived.Test.YtbncfpbaifnikaaM
import Derived.Test.YtbncfpbaifnikaaR
namespace Go.Proofs.Ytbncfpbaifnikaa
open Go Go.RowKit

structure Vt where
  (c s e n p : Int)
  who : List Int
  l : List Rp
  is : Bool
  res : Rp
abbrev vcells (v : Vt) (wa la : Value) : Array Value := #[.int .u32 v.c, .int .u32 v.s, .int .u16 v.e, .int .i64 v.n, .int .i64 v.p, wa, la, .bool v.is, .int .u32 v.res.c, .int .u32 v.res.s, .int .u16 v.res.n, .int .i64 v.res.e, .int .i64 v.res.k, .int .i64 v.res.i, .float .f64 v.res.f, .string v.res.t, .slice none 0 0]
def VoteIn (w : World) (vb : Nat) (v : Vt) (wa la : Value) : Prop :=
  w.heap[vb]? = some (.cells (vcells v wa la) 63) ∧ w.ownsRow (vb + 1) 3 1 wa v.who.length (v.who.map (Value.int .i64)) ∧
  w.ownsRow (vb + 1) 32 9 la v.l.length (v.l.flatMap Rp.cells) ∧ (∀ b, wa.ownBlock = some b → la.ownBlock ≠ some b)
/-- What a method leaves as it was. -/
structure VFr (w w' : World) (vb : Nat) (wa la wa' la' : Value) : Prop where
  below : Below vb w w'
  same : ∀ k, k < w.heap.size → k ≠ vb → wa.ownBlock ≠ some k → la.ownBlock ≠ some k → w'.heap[k]? = w.heap[k]?
  apart : ∀ k, k < w.heap.size → wa.ownBlock ≠ some k → la.ownBlock ≠ some k → wa'.ownBlock ≠ some k ∧ la'.ownBlock ≠ some k
theorem VFr.trans {w w1 w2 vb wa la wa1 la1 wa2 la2} (h : VFr w w1 vb wa la wa1 la1) (g : VFr w1 w2 vb wa1 la1 wa2 la2) : VFr w w2 vb wa la wa2 la2 where
  below := h.below.trans g.below
  same := fun k hk hv h1 h2 => by
    obtain ⟨p1, p2⟩ := h.apart k hk h1 h2
    rw [g.same k (Nat.lt_of_lt_of_le hk h.below.size) hv p1 p2, h.same k hk hv h1 h2]
  apart := fun k hk h1 h2 => by
    obtain ⟨p1, p2⟩ := h.apart k hk h1 h2
    exact g.apart k (Nat.lt_of_lt_of_le hk h.below.size) p1 p2
theorem VFr.of_below {w w' vb wa la} (hvb : vb < w.heap.size) (h : Below w.heap.size w w') : VFr w w' vb wa la wa la :=
  ⟨h.mono (Nat.le_of_lt hvb), fun k hk _ _ _ => h.block k hk, fun _ _ h1 h2 => ⟨h1, h2⟩⟩
theorem VFr.cell {w w' vb wa la wa' la'} (h : VFr w w' vb wa la wa' la') {k o : Nat} {u : Value} (hc : w.cell? ⟨k, o, none⟩ = some u) (hv : k ≠ vb) (h1 : wa.ownBlock ≠ some k) (h2 : la.ownBlock ≠ some k) : w'.cell? ⟨k, o, none⟩ = some u :=
  (World.cell?_of_block (w := w) (a := ⟨k, o, none⟩) (h.same k (World.block_lt_of_cell? w _ hc) hv h1 h2)).trans hc

theorem VoteIn.lt {w vb v wa la} (h : VoteIn w vb v wa la) : vb < w.heap.size := (Array.getElem?_eq_some_iff.1 h.1).1
theorem VoteIn.below {w w' vb v wa la} (h : VoteIn w vb v wa la) (hb : Below w.heap.size w w') : VoteIn w' vb v wa la :=
  ⟨block_below hb h.1, h.2.1.kept (grownBy_of_below hb none) (by cases wa.ownBlock <;> simp), h.2.2.1.kept (grownBy_of_below hb none) (by cases la.ownBlock <;> simp), h.2.2.2⟩
theorem VoteIn.wa {w vb v wa la} (h : VoteIn w vb v wa la) : ∃ a c, wa = .slice a v.who.length c := by
  rcases h.2.1.2 with ⟨rfl, h0⟩ | ⟨g, cap, cur, rfl, _⟩
  · exact ⟨none, 0, by rw [h0]⟩
  · exact ⟨_, _, rfl⟩
theorem VoteIn.la {w vb v wa la} (h : VoteIn w vb v wa la) : ∃ a c, la = .slice a v.l.length c := by
  rcases h.2.2.1.2 with ⟨rfl, h0⟩ | ⟨g, cap, cur, rfl, _⟩
  · exact ⟨none, 0, by rw [h0]⟩
  · exact ⟨_, _, rfl⟩

theorem ownsRow_setCell {w : World} {base : Nat} {e : TypeId} {size : Nat} {v : Value} {n : Nat} {xs : List Value} (h : w.ownsRow base e size v n xs) {a : Addr} (ha : v.ownBlock ≠ some a.block) (u : Value) : (w.setCell a u).ownsRow base e size v n xs :=
  ownsRow_setCell_other h ha u
theorem own_ne {w : World} {base : Nat} {e : TypeId} {size : Nat} {v : Value} {n : Nat} {xs : List Value} (h : w.ownsRow base e size v n xs) {k : Nat} (hk : k < base) : v.ownBlock ≠ some k := fun e => by
  have := (h.lt k e).1; omega

/-- Who put is added to. -/
theorem VoteIn.addWho {w w1 w2 : World} {vb : Nat} {v : Vt} {wa la : Value} (h : VoteIn w vb v wa la) (hb : Below w.heap.size w w1) {o : Obj} {x : Int} {g cap : Nat}
    (hown : w2.ownsRow (vb + 1) 3 1 (.slice (some ⟨g, 0, none⟩) (v.who.length + 1) cap) (v.who.length + 1) (v.who.map (Value.int .i64) ++ [.int .i64 x]))
    (hg : (w1.alloc o).grownBy w2 wa.ownBlock) (hat : wa.ownBlock = some g ∨ g = w1.heap.size + 1) :
    VoteIn (w2.setCell ⟨vb, 5, none⟩ (.slice (some ⟨g, 0, none⟩) (v.who.length + 1) cap)) vb { v with who := v.who ++ [x] } (.slice (some ⟨g, 0, none⟩) (v.who.length + 1) cap) la ∧
    VFr w (w2.setCell ⟨vb, 5, none⟩ (.slice (some ⟨g, 0, none⟩) (v.who.length + 1) cap)) vb wa la (.slice (some ⟨g, 0, none⟩) (v.who.length + 1) cap) la := by
  have hvb := h.lt
  have hs1 : (w1.alloc o).heap.size = w1.heap.size + 1 := by simp
  have hs := hb.size
  have h1 := h.below hb
  have hblk : ∀ k, k < w1.heap.size → wa.ownBlock ≠ some k → w2.heap[k]? = w1.heap[k]? := fun k hk hne => by
    rw [hg.block k (by omega) (fun e => hne e.symm), Below.heap_alloc _ _ _ hk]
  have hwv : wa.ownBlock ≠ some vb := own_ne h.2.1 (Nat.lt_succ_self _)
  have hlv : la.ownBlock ≠ some vb := own_ne h.2.2.1 (Nat.lt_succ_self _)
  have hlw : la.ownBlock = none ∨ la.ownBlock ≠ wa.ownBlock := by
    cases hl : la.ownBlock with
    | none => exact .inl rfl
    | some b => exact .inr fun e => h.2.2.2 b e.symm hl
  have hgv : g ≠ vb := by
    rcases hat with e | e
    · rintro rfl; exact hwv e
    · omega
  have hgl : ∀ b, g = b → la.ownBlock ≠ some b := by
    rintro b rfl hl
    rcases hat with e | e
    · exact h.2.2.2 g e hl
    · have := (h.2.2.1.lt g hl).2; omega
  refine ⟨⟨?_, ?_, ?_, ?_⟩, ⟨?_, ?_, ?_⟩⟩
  · have hv2 : w2.heap[vb]? = some (.cells (vcells v wa la) 63) := by rw [hblk vb (by omega) hwv]; exact h1.1
    exact block_setCell_self hv2
  · have := ownsRow_setCell hown (a := ⟨vb, 5, none⟩) (by simpa [Value.ownBlock] using hgv) (.slice (some ⟨g, 0, none⟩) (v.who.length + 1) cap)
    simpa using this
  · exact ownsRow_setCell ((h1.2.2.1.alloc o).kept hg hlw) (by simpa using hlv) _
  · intro b hbb
    simp only [Value.ownBlock, Option.some.injEq] at hbb
    exact hgl b hbb
  · refine ((hb.mono (Nat.le_of_lt hvb)).trans ?_).setCell (Nat.le_refl _) _
    exact ((Below.refl vb w1).alloc (by omega) _).grown hg (by omega) (fun k hk => by have := (h.2.1.lt k hk).1; omega)
  · intro k hk hkv h1' h2'
    rw [Below.heap_setCell _ _ _ _ hkv, hblk k (by omega) h1', hb.block k hk]
  · intro k hk h1' h2'
    refine ⟨fun e => ?_, h2'⟩
    simp only [Value.ownBlock, Option.some.injEq] at e
    subst e
    rcases hat with e | e
    · exact h1' e
    · omega

/-- The replies are added to. -/
theorem VoteIn.addL {w w1 w2 : World} {vb : Nat} {v : Vt} {wa la : Value} (h : VoteIn w vb v wa la) (hb : Below w.heap.size w w1) {o : Obj} {x : Rp} {g cap : Nat}
    (hown : w2.ownsRow (vb + 1) 32 9 (.slice (some ⟨g, 0, none⟩) (v.l.length + 1) cap) (v.l.length + 1) (v.l.flatMap Rp.cells ++ x.cells))
    (hg : (w1.alloc o).grownBy w2 la.ownBlock) (hat : la.ownBlock = some g ∨ g = w1.heap.size + 1) :
    VoteIn (w2.setCell ⟨vb, 6, none⟩ (.slice (some ⟨g, 0, none⟩) (v.l.length + 1) cap)) vb { v with l := v.l ++ [x] } wa (.slice (some ⟨g, 0, none⟩) (v.l.length + 1) cap) ∧
    VFr w (w2.setCell ⟨vb, 6, none⟩ (.slice (some ⟨g, 0, none⟩) (v.l.length + 1) cap)) vb wa la wa (.slice (some ⟨g, 0, none⟩) (v.l.length + 1) cap) := by
  have hvb := h.lt
  have hs1 : (w1.alloc o).heap.size = w1.heap.size + 1 := by simp
  have hs := hb.size
  have h1 := h.below hb
  have hblk : ∀ k, k < w1.heap.size → la.ownBlock ≠ some k → w2.heap[k]? = w1.heap[k]? := fun k hk hne => by
    rw [hg.block k (by omega) (fun e => hne e.symm), Below.heap_alloc _ _ _ hk]
  have hwv : wa.ownBlock ≠ some vb := own_ne h.2.1 (Nat.lt_succ_self _)
  have hlv : la.ownBlock ≠ some vb := own_ne h.2.2.1 (Nat.lt_succ_self _)
  have hlw : wa.ownBlock = none ∨ wa.ownBlock ≠ la.ownBlock := by
    cases hl : wa.ownBlock with
    | none => exact .inl rfl
    | some b => exact .inr fun e => h.2.2.2 b hl e.symm
  have hgv : g ≠ vb := by
    rcases hat with e | e
    · rintro rfl; exact hlv e
    · omega
  have hgl : ∀ b, g = b → wa.ownBlock ≠ some b := by
    rintro b rfl hl
    rcases hat with e | e
    · exact h.2.2.2 g hl e
    · have := (h.2.1.lt g hl).2; omega
  refine ⟨⟨?_, ?_, ?_, ?_⟩, ⟨?_, ?_, ?_⟩⟩
  · have hv2 : w2.heap[vb]? = some (.cells (vcells v wa la) 63) := by rw [hblk vb (by omega) hlv]; exact h1.1
    exact block_setCell_self hv2
  · exact ownsRow_setCell ((h1.2.1.alloc o).kept hg hlw) (by simpa using hwv) _
  · have := ownsRow_setCell hown (a := ⟨vb, 6, none⟩) (by simpa [Value.ownBlock] using hgv) (.slice (some ⟨g, 0, none⟩) (v.l.length + 1) cap)
    simpa using this
  · intro b hbb
    simp only [Value.ownBlock, ne_eq, Option.some.injEq]
    intro e
    exact hgl b e hbb
  · refine ((hb.mono (Nat.le_of_lt hvb)).trans ?_).setCell (Nat.le_refl _) _
    exact ((Below.refl vb w1).alloc (by omega) _).grown hg (by omega) (fun k hk => by have := (h.2.2.1.lt k hk).1; omega)
  · intro k hk hkv h1' h2'
    rw [Below.heap_setCell _ _ _ _ hkv, hblk k (by omega) h2', hb.block k hk]
  · intro k hk h1' h2'
    refine ⟨h1', fun e => ?_⟩
    simp only [Value.ownBlock, Option.some.injEq] at e
    subst e
    rcases hat with e | e
    · exact h2' e
    · omega

/-- One cell of the vote itself is stored. -/
theorem VoteIn.block_set {w : World} {vb : Nat} {v : Vt} {wa la : Value} (h : VoteIn w vb v wa la) : wa.ownBlock ≠ some vb ∧ la.ownBlock ≠ some vb :=
  ⟨own_ne h.2.1 (Nat.lt_succ_self _), own_ne h.2.2.1 (Nat.lt_succ_self _)⟩

/-- The result is stored. -/
theorem VoteIn.setRes {w : World} {vb : Nat} {v : Vt} {wa la : Value} (h : VoteIn w vb v wa la) (r : Rp) (b : Bool) :
    VoteIn ((((((((((w.setCell ⟨vb, 8, none⟩ (.int .u32 r.c)).setCell ⟨vb, 9, none⟩ (.int .u32 r.s)).setCell ⟨vb, 10, none⟩ (.int .u16 r.n)).setCell ⟨vb, 11, none⟩ (.int .i64 r.e)).setCell ⟨vb, 12, none⟩ (.int .i64 r.k)).setCell ⟨vb, 13, none⟩ (.int .i64 r.i)).setCell ⟨vb, 14, none⟩ (.float .f64 r.f)).setCell ⟨vb, 15, none⟩ (.string r.t)).setCell ⟨vb, 16, none⟩ (.slice none 0 0)).setCell ⟨vb, 7, none⟩ (.bool b)) vb { v with is := b, res := r } wa la ∧
    VFr w ((((((((((w.setCell ⟨vb, 8, none⟩ (.int .u32 r.c)).setCell ⟨vb, 9, none⟩ (.int .u32 r.s)).setCell ⟨vb, 10, none⟩ (.int .u16 r.n)).setCell ⟨vb, 11, none⟩ (.int .i64 r.e)).setCell ⟨vb, 12, none⟩ (.int .i64 r.k)).setCell ⟨vb, 13, none⟩ (.int .i64 r.i)).setCell ⟨vb, 14, none⟩ (.float .f64 r.f)).setCell ⟨vb, 15, none⟩ (.string r.t)).setCell ⟨vb, 16, none⟩ (.slice none 0 0)).setCell ⟨vb, 7, none⟩ (.bool b)) vb wa la wa la := by
  obtain ⟨hw, hl⟩ := h.block_set
  refine ⟨⟨?_, ?_, ?_, h.2.2.2⟩, ⟨?_, ?_, fun _ _ h1 h2 => ⟨h1, h2⟩⟩⟩
  · have e0 := h.1
    have e1 := block_setCell_self (i := 8) (u := .int .u32 r.c) e0
    simp only [List.setIfInBounds_toArray, List.set_cons_succ, List.set_cons_zero] at e1
    have e2 := block_setCell_self (i := 9) (u := .int .u32 r.s) e1
    simp only [List.setIfInBounds_toArray, List.set_cons_succ, List.set_cons_zero] at e2
    have e3 := block_setCell_self (i := 10) (u := .int .u16 r.n) e2
    simp only [List.setIfInBounds_toArray, List.set_cons_succ, List.set_cons_zero] at e3
    have e4 := block_setCell_self (i := 11) (u := .int .i64 r.e) e3
    simp only [List.setIfInBounds_toArray, List.set_cons_succ, List.set_cons_zero] at e4
    have e5 := block_setCell_self (i := 12) (u := .int .i64 r.k) e4
    simp only [List.setIfInBounds_toArray, List.set_cons_succ, List.set_cons_zero] at e5
    have e6 := block_setCell_self (i := 13) (u := .int .i64 r.i) e5
    simp only [List.setIfInBounds_toArray, List.set_cons_succ, List.set_cons_zero] at e6
    have e7 := block_setCell_self (i := 14) (u := .float .f64 r.f) e6
    simp only [List.setIfInBounds_toArray, List.set_cons_succ, List.set_cons_zero] at e7
    have e8 := block_setCell_self (i := 15) (u := .string r.t) e7
    simp only [List.setIfInBounds_toArray, List.set_cons_succ, List.set_cons_zero] at e8
    have e9 := block_setCell_self (i := 16) (u := .slice none 0 0) e8
    simp only [List.setIfInBounds_toArray, List.set_cons_succ, List.set_cons_zero] at e9
    have e10 := block_setCell_self (i := 7) (u := .bool b) e9
    simp only [List.setIfInBounds_toArray, List.set_cons_succ, List.set_cons_zero] at e10
    exact e10
  · iterate 10 (refine ownsRow_setCell ?_ (by simpa using hw) _)
    exact h.2.1
  · iterate 10 (refine ownsRow_setCell ?_ (by simpa using hl) _)
    exact h.2.2.1
  · have s : ∀ (x : World) (i : Nat) (u : Value), Below vb w x → Below vb w (x.setCell ⟨vb, i, none⟩ u) := fun x i u hx => hx.setCell (Nat.le_refl _) _
    exact s _ _ _ (s _ _ _ (s _ _ _ (s _ _ _ (s _ _ _ (s _ _ _ (s _ _ _ (s _ _ _ (s _ _ _ (s _ _ _ (Below.refl _ _))))))))))
  · intro k hk hkv _ _
    iterate 10 (rw [Below.heap_setCell _ _ _ _ hkv])
end Go.Proofs.Ytbncfpbaifnikaa
