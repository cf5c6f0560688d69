/- Calls read, as plain data; what a reading leaves alone. -/
import Derived.Test.YtkhgbbloeeaceaaFa
import Derived.Test.YtkhgbbloeeaceaaR
import Derived.Laws.OwnMore
namespace Go.Proofs.Ytkhgbbloeeaceaa
open Go Go.RowKit
set_option maxRecDepth 16000

/-- One argument out of bytes. -/
def vrd (zs : List Int) : Option (V × Nat) := match rd true 9 zs with
  | none => none
  | some (v, n) => if v.check = 0 then some (v, n) else none
theorem vread_vrd (zs : List Int) : vread (rd true 9 zs) = match vrd zs with | none => (V.nil, 0, 20) | some (v, n) => (v, (n : Int), 0) := by
  unfold vread vrd
  cases rd true 9 zs with
  | none => rfl
  | some p =>
    obtain ⟨v, n⟩ := p
    simp only
    split <;> rfl
theorem vrd_le (zs : List Int) (v : V) (n : Nat) (h : vrd zs = some (v, n)) : n ≤ zs.length := by
  unfold vrd at h
  cases hr : rd true 9 zs with
  | none => rw [hr] at h; cases h
  | some p =>
    obtain ⟨v', n'⟩ := p
    rw [hr] at h
    simp only at h
    split at h
    · simp only [Option.some.injEq, Prod.mk.injEq] at h
      have := rd_le true 9 zs _ _ hr
      omega
    · cases h
structure O where
  c : Nat
  s : Nat
  n : Nat
  g : ByteArray
  m : ByteArray
  l : List V
/-- The arguments, behind their number. -/
def oargs (c s n : Nat) (g m : ByteArray) (d : Nat) : List Int → Option (O × Nat)
  | [] => none
  | k :: zs => if 16 < k then none else match rdItems vrd k.toNat zs with
    | none => none
    | some (vs, q) => some (⟨c, s, n, g, m, vs⟩, d + 1 + q)
/-- A call out of bytes: it, and how many bytes. -/
def ord (zs : List Int) : Option (O × Nat) :=
  if zs.length < 10 then none
  else if (rtext (zs.drop 10) 32).2.2 = 0 then
    (if (rtext (zs.drop (10 + (rtext (zs.drop 10) 32).2.1.toNat)) 32).2.2 = 0 then
      oargs (idc zs) (ids zs) (idn zs) (rtext (zs.drop 10) 32).1 (rtext (zs.drop (10 + (rtext (zs.drop 10) 32).2.1.toNat)) 32).1
        (10 + (rtext (zs.drop 10) 32).2.1.toNat + (rtext (zs.drop (10 + (rtext (zs.drop 10) 32).2.1.toNat)) 32).2.1.toNat)
        (zs.drop (10 + (rtext (zs.drop 10) 32).2.1.toNat + (rtext (zs.drop (10 + (rtext (zs.drop 10) 32).2.1.toNat)) 32).2.1.toNat))
    else none)
  else none
/-- What Read tells of a call. -/
def oread (zs : List Int) : O × Int × Int := match ord zs with
  | none => (⟨0, 0, 0, ⟨#[]⟩, ⟨#[]⟩, []⟩, 0, 20)
  | some (o, n) => (o, n, 0)
/-- The steps of it. -/
theorem ord_short {zs : List Int} (h : zs.length < 10) : ord zs = none := by unfold ord; rw [if_pos h]
theorem ord_name1 {zs : List Int} (h : ¬ zs.length < 10) (h1 : ¬ (rtext (zs.drop 10) 32).2.2 = 0) : ord zs = none := by unfold ord; rw [if_neg h, if_neg h1]
theorem rtext_parts {zs : List Int} {most : Int} (h : (rtext zs most).2.2 = 0) : ∃ (t : ByteArray) (u : Nat), rtext zs most = (t, 2 + (u : Int), 0) ∧ u + 2 ≤ zs.length := by
  obtain ⟨q1, q2, q3, q4⟩ := rtext_ok h
  exact ⟨_, _, q4, q3⟩
theorem rtext_fault {zs : List Int} {most : Int} (h : ¬ (rtext zs most).2.2 = 0) : rtext zs most = (⟨#[]⟩, 0, 20) := by
  unfold rtext at h ⊢
  split
  · rfl
  · split
    · rfl
    · rename_i h1 h2; rw [if_neg h1, if_neg h2] at h; exact absurd rfl h
theorem ord_name2 {zs : List Int} {g : ByteArray} {u : Nat} (h : ¬ zs.length < 10) (h1 : rtext (zs.drop 10) 32 = (g, 2 + (u : Int), 0)) (h2 : ¬ (rtext (zs.drop (12 + u)) 32).2.2 = 0) : ord zs = none := by
  unfold ord
  rw [if_neg h, h1]
  simp only [if_true]
  rw [show (2 + (u : Int)).toNat = 2 + u by omega, show 10 + (2 + u) = 12 + u by omega, if_neg h2]
theorem ord_args {zs : List Int} {g m : ByteArray} {u v : Nat} (h : ¬ zs.length < 10) (h1 : rtext (zs.drop 10) 32 = (g, 2 + (u : Int), 0)) (h2 : rtext (zs.drop (12 + u)) 32 = (m, 2 + (v : Int), 0)) :
    ord zs = oargs (idc zs) (ids zs) (idn zs) g m (14 + u + v) (zs.drop (14 + u + v)) := by
  unfold ord
  rw [if_neg h, h1]
  simp only [if_true]
  rw [show (2 + (u : Int)).toNat = 2 + u by omega, show 10 + (2 + u) = 12 + u by omega, h2]
  simp only [if_true]
  rw [show (2 + (v : Int)).toNat = 2 + v by omega, show 12 + u + (2 + v) = 14 + u + v by omega]
theorem oargs_nil (c s n g m d) : oargs c s n g m d [] = none := rfl
theorem oargs_many {c s n g m d} {k : Int} {zs : List Int} (h : 16 < k) : oargs c s n g m d (k :: zs) = none := by unfold oargs; simp only; rw [if_pos h]
theorem oargs_no {c s n g m d} {k : Nat} {zs : List Int} (hr : rdItems vrd k zs = none) : oargs c s n g m d ((k : Int) :: zs) = none := by
  unfold oargs
  simp only
  split
  · rfl
  · rw [show ((k : Int)).toNat = k by omega, hr]
theorem oargs_yes {c s n g m d} {k : Nat} {zs : List Int} {vs : List V} {q : Nat} (h : ¬ 16 < (k : Int)) (hr : rdItems vrd k zs = some (vs, q)) : oargs c s n g m d ((k : Int) :: zs) = some (⟨c, s, n, g, m, vs⟩, d + 1 + q) := by
  unfold oargs
  simp only
  rw [if_neg h, show ((k : Int)).toNat = k by omega, hr]

/-- Nothing was turned but two blocks, and what is new. -/
structure But2 (ob rb : Nat) (w w' : World) : Prop where
  os : w'.os = w.os
  tape : w'.tape = w.tape
  output : w'.output = w.output
  size : w.heap.size ≤ w'.heap.size
  block : ∀ k, k < w.heap.size → k ≠ ob → k ≠ rb → w'.heap[k]? = w.heap[k]?
theorem But2.refl (ob rb w) : But2 ob rb w w := ⟨rfl, rfl, rfl, Nat.le_refl _, fun _ _ _ _ => rfl⟩
theorem But2.trans {ob rb w w1 w2} (h : But2 ob rb w w1) (g : But2 ob rb w1 w2) : But2 ob rb w w2 :=
  ⟨g.os.trans h.os, g.tape.trans h.tape, g.output.trans h.output, Nat.le_trans h.size g.size, fun k hk h1 h2 => by rw [g.block k (Nat.lt_of_lt_of_le hk h.size) h1 h2, h.block k hk h1 h2]⟩
theorem But2.of_but {ob rb w w'} (h : But rb w w') : But2 ob rb w w' := ⟨h.os, h.tape, h.output, h.size, fun k hk _ h2 => h.block k hk (fun e => h2 (Option.some.inj e))⟩
theorem But2.of_below {ob rb w w'} (h : Below w.heap.size w w') : But2 ob rb w w' := ⟨h.os, h.tape, h.output, h.size, fun k hk _ _ => h.block k hk⟩
theorem But2.set {ob rb w w'} (h : But2 ob rb w w') (o : Nat) (v : Value) : But2 ob rb w (w'.setCell ⟨ob, o, none⟩ v) :=
  ⟨h.os, h.tape, h.output, by simpa using h.size, fun k hk h1 h2 => by rw [Below.heap_setCell _ _ _ _ h1, h.block k hk h1 h2]⟩
theorem But2.set_new {ob rb w w' b} (h : But2 ob rb w w') (hb : w.heap.size ≤ b) (o : Nat) (v : Value) : But2 ob rb w (w'.setCell ⟨b, o, none⟩ v) :=
  ⟨h.os, h.tape, h.output, by simpa using h.size, fun k hk h1 h2 => by rw [Below.heap_setCell _ _ _ _ (show k ≠ b by omega), h.block k hk h1 h2]⟩
theorem But2.cell {ob rb w w' b o v} (h : But2 ob rb w w') (h1 : b ≠ ob) (h2 : b ≠ rb) (hc : w.cell? ⟨b, o, none⟩ = some v) : w'.cell? ⟨b, o, none⟩ = some v :=
  (World.cell?_of_block (w := w) (h.block b (World.block_lt_of_cell? w _ hc) h1 h2)).trans hc
/-- A call's block. -/
def ok6 (w : World) (ob : Nat) (c s n : Int) (g m : ByteArray) (sl : Value) : Prop := w.heap[ob]? = some (.cells #[.int .u32 c, .int .u32 s, .int .u16 n, .string g, .string m, sl] 29)
theorem ok6.cells {w ob c s n g m sl} (h : ok6 w ob c s n g m sl) : at6 w ob c s n g m sl ∧ (∀ k, w.frozen? ⟨ob, k, none⟩ = false) ∧ ob < w.heap.size := by
  unfold ok6 at h
  exact ⟨⟨⟨by simp [World.cell?, h], by simp [World.cell?, h], by simp [World.cell?, h]⟩, by simp [World.cell?, h], by simp [World.cell?, h], by simp [World.cell?, h]⟩, fun n => by simp [World.frozen?, h], (Array.getElem?_eq_some_iff.1 h).1⟩
theorem BIn.ne6 {w a zs ob c s n g m va vn vc} (h : BIn w a zs) (hr : ok6 w ob c s n g m (.slice va vn vc)) : zs = [] ∨ ∃ b o, a = some ⟨b, o, none⟩ ∧ b ≠ ob := by
  cases zs with
  | nil => exact .inl rfl
  | cons z zs =>
    obtain ⟨b, o, e, hc, _⟩ := h 0 (by simp)
    refine .inr ⟨b, o, e, fun hb => ?_⟩
    subst hb
    unfold ok6 at hr
    simp only [World.cell?, hr] at hc
    rcases o with _ | _ | _ | _ | _ | _ | o <;> simp at hc
theorem BIn.turned {w w' a zs ob rb} (h : BIn w a zs) (h1 : zs = [] ∨ ∃ b o, a = some ⟨b, o, none⟩ ∧ b ≠ ob) (h2 : zs = [] ∨ ∃ b o, a = some ⟨b, o, none⟩ ∧ b ≠ rb) (hb : But2 ob rb w w') : BIn w' a zs := by
  rcases h1 with e | ⟨b, o, rfl, hn1⟩
  · subst e; intro j hj; cases hj
  rcases h2 with e | ⟨b2, o2, e, hn2⟩
  · subst e; intro j hj; cases hj
  simp only [Option.some.injEq, Addr.mk.injEq] at e
  obtain ⟨rfl, rfl, _⟩ := e
  intro j hj
  obtain ⟨b2, o2, e, hc, h0⟩ := h j hj
  simp only [Option.some.injEq, Addr.mk.injEq] at e
  obtain ⟨rfl, rfl, _⟩ := e
  exact ⟨_, _, rfl, hb.cell hn1 hn2 hc, h0⟩

abbrev set5v (w : World) (g o : Nat) (k i : Int) (f : Nat) (s : ByteArray) (sl : Value) : World :=
  ((((w.setCell ⟨g, o, none⟩ (.int .i64 k)).setCell ⟨g, o + 1, none⟩ (.int .i64 i)).setCell ⟨g, o + 2, none⟩ (.float .f64 f)).setCell ⟨g, o + 3, none⟩ (.string s)).setCell ⟨g, o + 4, none⟩ sl
theorem heap5v {w : World} {g o k i f s sl b} (h : b ≠ g) : (set5v w g o k i f s sl).heap[b]? = w.heap[b]? := by
  unfold set5v
  rw [Below.heap_setCell _ _ _ _ h, Below.heap_setCell _ _ _ _ h, Below.heap_setCell _ _ _ _ h, Below.heap_setCell _ _ _ _ h, Below.heap_setCell _ _ _ _ h]
theorem set_app (xs : List Value) (y0 y1 y2 y3 y4 u0 u1 u2 u3 u4 : Value) (n : Nat) (hn : xs.length = n) :
    (((((xs ++ [y0, y1, y2, y3, y4]).set n u0).set (n + 1) u1).set (n + 2) u2).set (n + 3) u3).set (n + 4) u4 = xs ++ [u0, u1, u2, u3, u4] := by
  subst hn
  simp [List.set_append]
/-- A zero was appended, a value is laid into its place. -/
theorem OwnV.put {e base : Nat} {w5 w6 : World} {u : Value} {ps : List (V × Value)} (h : OwnV e base w5 u ps) {t : V} {k i : Int} {f : Nat} {s : ByteArray} {l : List V} (ht : t = V.mk k i f s l) {sa : Option Addr} {sc H0 : Nat} (hv : VIn (fun b => H0 ≤ b) w5 t (.slice sa l.length sc)) (hb0 : base ≤ H0) (hlt : ∀ q, u.ownBlock = some q → q < H0)
    {g cap n : Nat} (hn : n = ps.length) (hown : w6.ownsRow base e 5 (.slice (some ⟨g, 0, none⟩) (n + 1) cap) (n + 1) (flat ps ++ flat [(V.nil, .slice none 0 0)])) (hkeep : ∀ b, base ≤ b → b < w5.heap.size → u.ownBlock ≠ some b → w6.heap[b]? = w5.heap[b]?)
    (hat : u.ownBlock = some g ∨ w5.heap.size ≤ g) : OwnV e base (set5v w6 g (n * 5) k i f s (.slice sa l.length sc)) (.slice (some ⟨g, 0, none⟩) (n + 1) cap) (ps ++ [(t, .slice sa l.length sc)]) := by
  subst hn
  subst ht
  have hfl : (flat ps).length = ps.length * 5 := flat_length ps
  refine ⟨?_, fun p hp => ?_⟩
  · have q1 := (hown.stored (ps.length * 5) (.int .i64 k)).1
    have q2 := (q1.stored (ps.length * 5 + 1) (.int .i64 i)).1
    have q3 := (q2.stored (ps.length * 5 + 2) (.float .f64 f)).1
    have q4 := (q3.stored (ps.length * 5 + 3) (.string s)).1
    have r1 := (q4.stored (ps.length * 5 + 4) (.slice sa l.length sc)).1
    have e1 := set_app (flat ps) (.int .i64 0) (.int .i64 0) (.float .f64 0) (.string ⟨#[]⟩) (.slice none 0 0) (.int .i64 k) (.int .i64 i) (.float .f64 f) (.string s) (.slice sa l.length sc) (ps.length * 5) hfl
    rw [show flat [(V.nil, .slice none 0 0)] = [.int .i64 0, .int .i64 0, .float .f64 0, .string ⟨#[]⟩, .slice none 0 0] from rfl, e1] at r1
    rw [flat_append, List.length_append]
    exact r1
  · have hne : ∀ b, b < w5.heap.size → u.ownBlock ≠ some b → b ≠ g := fun b hb h1 e => by
      subst e
      rcases hat with h2 | h2
      · exact h1 h2
      · omega
    have hk2 : ∀ b, base ≤ b → b < w5.heap.size → u.ownBlock ≠ some b → (set5v w6 g (ps.length * 5) k i f s (.slice sa l.length sc)).heap[b]? = w5.heap[b]? := fun b h0 hb h1 => by
      rw [heap5v (hne b hb h1), hkeep b h0 hb h1]
    have hob : ∀ b, b < w5.heap.size → u.ownBlock ≠ some b → (Value.slice (some ⟨g, 0, none⟩) (ps.length + 1) cap).ownBlock ≠ some b := fun b hb h1 e => by
      simp only [Value.ownBlock, Option.some.injEq] at e
      exact hne b hb h1 e.symm
    rcases List.mem_append.1 hp with hp | hp
    · exact (h.2 p hp).keep (fun b hD hb => hk2 b hD.1 hb hD.2) (fun b hD hb => ⟨hD.1, hob b hb hD.2⟩)
    · simp only [List.mem_singleton] at hp
      subst hp
      exact hv.keep (fun b hD hb => hk2 b (Nat.le_trans hb0 hD) hb (fun e => by have := hlt b e; have : H0 ≤ b := hD; omega)) (fun b hD hb => ⟨Nat.le_trans hb0 hD, hob b hb (fun e => by have := hlt b e; have : H0 ≤ b := hD; omega)⟩)
end Go.Proofs.Ytkhgbbloeeaceaa
