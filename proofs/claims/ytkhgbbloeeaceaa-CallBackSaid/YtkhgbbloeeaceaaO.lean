/- A list of values that the call itself makes, element by element. -/
import Derived.Test.YtkhgbbloeeaceaaV
import Derived.Deep.AppendLies
namespace Go.Proofs.Ytkhgbbloeeaceaa
open Go Go.RowKit
set_option maxRecDepth 16000

/-- The cells of values with their lists' slices. -/
def flat : List (V × Value) → List Value
  | [] => []
  | (t, sl) :: r => .int .i64 t.k :: .int .i64 t.i :: .float .f64 t.f :: .string t.s :: sl :: flat r
theorem flat_append (a b) : flat (a ++ b) = flat a ++ flat b := by
  induction a with
  | nil => rfl
  | cons p r ih => simp [flat, ih]
theorem flat_length (a) : (flat a).length = a.length * 5 := by
  induction a with
  | nil => rfl
  | cons p r ih => simp only [flat, List.length_cons, ih]; omega

/-- The row v is the call's own and holds the values ps; their lists lie apart from it. -/
def OwnV (e : TypeId) (base : Nat) (w : World) (v : Value) (ps : List (V × Value)) : Prop :=
  w.ownsRow base e 5 v ps.length (flat ps) ∧ ∀ p ∈ ps, VIn (fun b => base ≤ b ∧ v.ownBlock ≠ some b) w p.1 p.2

theorem grownBy_of_below {w w' : World} (h : Below w.heap.size w w') (r : Option Nat) : w.grownBy w' r :=
  ⟨h.os, h.tape, h.output, h.size, fun k hk _ => h.block k hk⟩

theorem OwnV.nil (e base w) : OwnV e base w (.slice none 0 0) [] := ⟨World.ownsRow_nil w base e 5, fun p hp => by cases hp⟩

theorem OwnV.below {e base w w' v ps} (h : OwnV e base w v ps) (hb : Below w.heap.size w w') : OwnV e base w' v ps :=
  ⟨h.1.kept (grownBy_of_below hb none) (by cases v.ownBlock <;> simp), fun p hp => (h.2 p hp).below hb⟩

/-- A world that is as w was from base on. -/
theorem OwnV.same {e base w w' v ps} (h : OwnV e base w v ps) (hb : ∀ k, base ≤ k → k < w.heap.size → w'.heap[k]? = w.heap[k]?) : OwnV e base w' v ps := by
  refine ⟨⟨h.1.1, ?_⟩, fun p hp => (h.2 p hp).keep (fun b hD hlt => hb b hD.1 hlt) (fun _ hD _ => hD)⟩
  rcases h.1.2 with h1 | ⟨g, cap, cur, hv, hg, hh, r⟩
  · exact .inl h1
  · exact .inr ⟨g, cap, cur, hv, hg, by rw [hb g hg (Array.getElem?_eq_some_iff.1 hh).1]; exact hh, r⟩
theorem OwnV.setCell {e base w v ps} (h : OwnV e base w v ps) {a : Addr} (ha : a.block < base) (u : Value) : OwnV e base (w.setCell a u) v ps :=
  h.same fun k hk _ => Below.heap_setCell _ _ _ _ (by omega)
theorem OwnV.alloc {e base w v ps} (h : OwnV e base w v ps) (o : Obj) : OwnV e base (w.alloc o) v ps :=
  h.same fun k _ hk => Below.heap_alloc _ _ _ hk
theorem OwnV.drew {e base w v ps} (h : OwnV e base w v ps) : OwnV e base w.drew v ps :=
  h.same fun _ _ _ => rfl

/-- One more. -/
theorem OwnV.snoc {e base : Nat} {w w1 w2 : World} {v : Value} {ps : List (V × Value)} (h : OwnV e base w v ps) (hbase : base ≤ w.heap.size) (hb : Below w.heap.size w w1)
    {t : V} {sl : Value} (ht : VIn (fun b => w.heap.size ≤ b) w1 t sl) {o : Obj} {g cap : Nat} {n : Nat} (hn : n = ps.length + 1) (hown : w2.ownsRow base e 5 (.slice (some ⟨g, 0, none⟩) n cap) n (flat ps ++ flat [(t, sl)]))
    (hg : (w1.alloc o).grownBy w2 v.ownBlock) (hat : v.ownBlock = some g ∨ g = w1.heap.size + 1) : OwnV e base w2 (.slice (some ⟨g, 0, none⟩) n cap) (ps ++ [(t, sl)]) := by
  subst hn
  have hlt : ∀ k, v.ownBlock = some k → k < w.heap.size := fun k hk => (h.1.lt k hk).2
  have hsz : (w1.alloc o).heap.size = w1.heap.size + 1 := by simp
  refine ⟨by rw [flat_append]; simpa using hown, fun p hp => ?_⟩
  have hkeep : ∀ b, b < w1.heap.size → v.ownBlock ≠ some b → w2.heap[b]? = w1.heap[b]? := fun b hb1 hne => by
    rw [hg.block b (by omega) (fun e => hne e.symm), Below.heap_alloc _ _ _ hb1]
  have hgne : ∀ b, b < w1.heap.size → v.ownBlock ≠ some b → (Value.slice (some ⟨g, 0, none⟩) (ps.length + 1) cap).ownBlock ≠ some b := fun b hb1 hne e => by
    simp only [Value.ownBlock, Option.some.injEq] at e
    subst e
    rcases hat with e | e
    · exact hne e
    · omega
  rcases List.mem_append.1 hp with hp | hp
  · refine ((h.2 p hp).below hb).keep (fun b hD hb1 => hkeep b hb1 hD.2) (fun b hD hb1 => ⟨hD.1, hgne b hb1 hD.2⟩)
  · simp only [List.mem_singleton] at hp
    subst hp
    refine ht.keep (fun b hD hb1 => hkeep b hb1 (fun e => by have := hlt b e; omega)) (fun b hD hb1 => ⟨by omega, hgne b hb1 (fun e => by have := hlt b e; omega)⟩)

theorem EIn.of_cells {D : Nat → Prop} {w : World} {g : Nat} : ∀ {ps : List (V × Value)} {o : Nat}, (∀ j u, (flat ps)[j]? = some u → w.cell? ⟨g, o + j, none⟩ = some u) → (ps ≠ [] → D g) → (∀ p ∈ ps, VIn D w p.1 p.2) → EIn D w g o (ps.map Prod.fst)
  | [], _, _, _, _ => by unfold EIn; trivial
  | (t, sl) :: r, o, hc, hg, hp => by
    show EIn D w g o (t :: r.map Prod.fst)
    unfold EIn
    have c := fun j u (h : (flat ((t, sl) :: r))[j]? = some u) => hc j u h
    refine ⟨⟨hg (by simp), sl, by simpa using c 0 _ rfl, c 1 _ rfl, c 2 _ rfl, c 3 _ rfl, c 4 _ rfl, hp (t, sl) (by simp)⟩, EIn.of_cells (ps := r) (fun j u h => ?_) (fun _ => hg (by simp)) (fun p h => hp p (by simp [h]))⟩
    have := c (j + 5) u (by simpa [flat] using h)
    rw [show o + 5 + j = o + (j + 5) by omega]
    exact this

/-- What was made is a list. -/
theorem OwnV.list {e base w v ps} (h : OwnV e base w v ps) (hl : ps.length * 64 ≤ 140737488351232) : VIn (fun b => base ≤ b) w (V.lst (ps.map Prod.fst)) v := by
  refine VIn.of ⟨by decide, by decide, by decide, by decide, by simpa using hl, ?_⟩
  rcases h.1.2 with ⟨rfl, h0⟩ | ⟨g, cap, cur, rfl, hg, hh, hn, hm, hs, ht⟩
  · have : ps = [] := List.eq_nil_of_length_eq_zero h0
    subst this
    exact ⟨none, 0, by simp, by simp, by omega, fun _ => rfl, .inl rfl⟩
  · refine ⟨some ⟨g, 0, none⟩, cap, by simp, by simpa using hn, by unfold maxLen at hm; omega, (fun e => by cases e), .inr ⟨g, 0, rfl, ?_⟩⟩
    refine EIn.of_cells (fun j u hj => ?_) (fun _ => hg) (fun p hp => (h.2 p hp).keep (fun _ _ _ => rfl) (fun _ hD _ => hD.1))
    have := h.1.cells (g := g) rfl j u hj
    have hadd : (⟨g, 0, none⟩ : Addr).add j = ⟨g, 0 + j, none⟩ := by unfold Addr.add; split <;> simp_all
    rwa [hadd] at this

/-- A value that the call made. -/
def RetV (w : World) (t : V) (e : Ending) (w' : World) : Prop :=
  ∃ sl, e = .returned (.agg #[.int .i64 t.k, .int .i64 t.i, .float .f64 t.f, .string t.s, sl]) ∧ VIn (fun b => w.heap.size ≤ b) w' t sl ∧ Below w.heap.size w w'

mutual
/-- Nothing but what its kinds have. -/
def V.clean : V → V
  | .mk k i f s l => if k = 1 then V.int i else if k = 2 then V.flt (canonN f) else if k = 3 then V.txt s else if k = 4 then V.lst (V.cleans l) else V.nil
def V.cleans : List V → List V
  | [] => []
  | t :: ts => V.clean t :: V.cleans ts
end
theorem V.clean_mk (k i f s l) : (V.mk k i f s l).clean = if k = 1 then V.int i else if k = 2 then V.flt (canonN f) else if k = 3 then V.txt s else if k = 4 then V.lst (V.cleans l) else V.nil := by rw [V.clean]
theorem V.cleans_map (l) : V.cleans l = l.map V.clean := by
  induction l with
  | nil => rw [V.cleans]; rfl
  | cons t ts ih => rw [V.cleans, ih]; rfl
theorem map_take_succ {α β} (p : α → β) (l : List α) (j : Nat) (hj : j < l.length) : (l.take (j + 1)).map p = (l.take j).map p ++ [p l[j]] := by
  rw [List.take_succ_eq_append_getElem hj, List.map_append]; rfl

theorem canonN_lt {f : Nat} (h : f < 2 ^ 64) : canonN f < 2 ^ 64 := by unfold canonN; split <;> omega
theorem VIn.int {D w n} (h : (Lit.int .i64 n).wf = true) : VIn D w (V.int n) (.slice none 0 0) := VIn.of ⟨by decide, h, by decide, by decide, by decide, none, 0, rfl, by decide, by decide, fun _ => rfl, .inl rfl⟩
theorem VIn.flt {D w f} (h : f < 2 ^ 64) : VIn D w (V.flt f) (.slice none 0 0) := VIn.of ⟨by decide, by decide, h, by decide, by decide, none, 0, rfl, by decide, by decide, fun _ => rfl, .inl rfl⟩
theorem VIn.txt {D w s} (h : s.size ≤ 140737488351232) : VIn D w (V.txt s) (.slice none 0 0) := VIn.of ⟨by decide, by decide, by decide, h, by decide, none, 0, rfl, by decide, by decide, fun _ => rfl, .inl rfl⟩
theorem VIn.nil {D w} : VIn D w V.nil (.slice none 0 0) := VIn.of ⟨by decide, by decide, by decide, by decide, by decide, none, 0, rfl, by decide, by decide, fun _ => rfl, .inl rfl⟩

/-- A variable of five cells, laid behind one other block, once a call has been made. -/
theorem var5 {w w1 : World} {o : Obj} {z0 z1 z2 z3 z4 : Value} {e : TypeId} (hb : Below ((w.alloc o).alloc (.cells #[z0, z1, z2, z3, z4] e)).heap.size ((w.alloc o).alloc (.cells #[z0, z1, z2, z3, z4] e)) w1) :
    (w1.cell? ⟨w.heap.size + 1, 0, none⟩ = some z0 ∧ w1.cell? ⟨w.heap.size + 1, 1, none⟩ = some z1 ∧ w1.cell? ⟨w.heap.size + 1, 2, none⟩ = some z2 ∧ w1.cell? ⟨w.heap.size + 1, 3, none⟩ = some z3 ∧ w1.cell? ⟨w.heap.size + 1, 4, none⟩ = some z4) ∧
    (∀ n, w1.frozen? ⟨w.heap.size + 1, n, none⟩ = false) ∧ w.heap.size + 1 < w1.heap.size ∧ Below w.heap.size w w1 := by
  have hz : ((w.alloc o).alloc (.cells #[z0, z1, z2, z3, z4] e)).heap.size = w.heap.size + 1 + 1 := by simp
  have hblk : w1.heap[w.heap.size + 1]? = some (.cells #[z0, z1, z2, z3, z4] e) := by
    rw [hb.block (w.heap.size + 1) (by omega)]
    have := heap_alloc_new (w.alloc o) (.cells #[z0, z1, z2, z3, z4] e)
    rwa [show (w.alloc o).heap.size = w.heap.size + 1 by simp] at this
  refine ⟨⟨by simp [World.cell?, hblk], by simp [World.cell?, hblk], by simp [World.cell?, hblk], by simp [World.cell?, hblk], by simp [World.cell?, hblk]⟩, fun n => by simp [World.frozen?, hblk], by have := hb.size; omega, ?_⟩
  exact (((Below.refl _ _).alloc (Nat.le_refl _) _).alloc (by simp) _).trans (hb.mono (by omega))

theorem below5 {B : Nat} {w w1 : World} (h : Below B w w1) {b : Nat} (hb : B ≤ b) (u0 u1 u2 u3 u4 : Value) :
    Below B w (((((w1.setCell ⟨b, 0, none⟩ u0).setCell ⟨b, 1, none⟩ u1).setCell ⟨b, 2, none⟩ u2).setCell ⟨b, 3, none⟩ u3).setCell ⟨b, 4, none⟩ u4) :=
  ((((h.setCell hb _).setCell hb _).setCell hb _).setCell hb _).setCell hb _
theorem heap5 {w1 : World} {b : Nat} (u0 u1 u2 u3 u4 : Value) (k : Nat) (hk : k ≠ b) :
    (((((w1.setCell ⟨b, 0, none⟩ u0).setCell ⟨b, 1, none⟩ u1).setCell ⟨b, 2, none⟩ u2).setCell ⟨b, 3, none⟩ u3).setCell ⟨b, 4, none⟩ u4).heap[k]? = w1.heap[k]? := by
  rw [Below.heap_setCell _ _ _ _ hk, Below.heap_setCell _ _ _ _ hk, Below.heap_setCell _ _ _ _ hk, Below.heap_setCell _ _ _ _ hk, Below.heap_setCell _ _ _ _ hk]

/-- A block of five cells that is known whole. -/
theorem cells_of_block5 {w : World} {b : Nat} {z0 z1 z2 z3 z4 : Value} {e : TypeId} (h : w.heap[b]? = some (.cells #[z0, z1, z2, z3, z4] e)) :
    (w.cell? ⟨b, 0, none⟩ = some z0 ∧ w.cell? ⟨b, 1, none⟩ = some z1 ∧ w.cell? ⟨b, 2, none⟩ = some z2 ∧ w.cell? ⟨b, 3, none⟩ = some z3 ∧ w.cell? ⟨b, 4, none⟩ = some z4) ∧ (∀ n, w.frozen? ⟨b, n, none⟩ = false) :=
  ⟨⟨by simp [World.cell?, h], by simp [World.cell?, h], by simp [World.cell?, h], by simp [World.cell?, h], by simp [World.cell?, h]⟩, fun n => by simp [World.frozen?, h]⟩
theorem block_alloc_at {w : World} {n : Nat} (o : Obj) (hn : n = w.heap.size) : (w.alloc o).heap[n]? = some o := by
  subst hn; exact heap_alloc_new w o
theorem block_alloc_old {w : World} {n : Nat} {o' : Obj} (o : Obj) (h : w.heap[n]? = some o') : (w.alloc o).heap[n]? = some o' := by
  rw [Below.heap_alloc _ _ _ (Array.getElem?_eq_some_iff.1 h).1]; exact h
theorem block_below {w w' : World} {n : Nat} {o' : Obj} (hb : Below w.heap.size w w') (h : w.heap[n]? = some o') : w'.heap[n]? = some o' := by
  rw [hb.block _ (Array.getElem?_eq_some_iff.1 h).1]; exact h
theorem block_belowB {B : Nat} {w w' : World} {n : Nat} {o' : Obj} (hb : Below B w w') (hn : n < B) (h : w.heap[n]? = some o') : w'.heap[n]? = some o' := by
  rw [hb.block _ hn]; exact h
theorem block_setCell {w : World} {n : Nat} {o' : Obj} {a : Addr} {u : Value} (hn : n ≠ a.block) (h : w.heap[n]? = some o') : (w.setCell a u).heap[n]? = some o' := by
  rw [Below.heap_setCell _ _ _ _ hn]; exact h
theorem block_setCell_self {w : World} {n : Nat} {c : Array Value} {e : TypeId} {f : Nat × Nat} {i : Nat} {u : Value} (h : w.heap[n]? = some (.cells c e f)) : (w.setCell ⟨n, i, none⟩ u).heap[n]? = some (.cells (c.setIfInBounds i u) e f) := by
  have hlt := (Array.getElem?_eq_some_iff.1 h).1
  have h' : w.heap[n] = .cells c e f := (Array.getElem?_eq_some_iff.1 h).2
  show (w.heap.modify n _)[n]? = _
  rw [Array.getElem?_eq_getElem (by simpa using hlt), Array.getElem_modify_self, h']
  rfl

end Go.Proofs.Ytkhgbbloeeaceaa
