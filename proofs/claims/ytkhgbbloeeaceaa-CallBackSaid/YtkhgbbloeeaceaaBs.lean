/- Byte slices that are built: one append law for what the call owns and for what came in and is full. -/
import Derived.Test.YtkhgbbloeeaceaaOb
import Derived.Test.YtkhgbbloeeaceaaG
import Derived.Deep.AppendLies
import Derived.ArgAppend
import Derived.Lib.SmallJoins
namespace Go.Proofs.Ytkhgbbloeeaceaa
open Go Go.RowKit
set_option maxRecDepth 16000

abbrev u8s (zs : List Int) : List Value := zs.map (Value.int .u8)
/-- The call's own bytes. -/
def Own (w : World) (base : Nat) (sl : Value) (zs : List Int) : Prop := w.ownsRow base 5 1 sl zs.length (u8s zs)
/-- Bytes that may be appended to: the call's own, or full ones. -/
def Bs (w : World) (base : Nat) (sl : Value) (zs : List Int) : Prop := Own w base sl zs ∨ ∃ a, sl = .slice a zs.length zs.length ∧ BIn w a zs ∧ ∀ p, a = some p → p.block < w.heap.size
/-- The block that may be written: the slice's own, if it is the call's. -/
def obk (base : Nat) (sl : Value) : Option Nat := sl.ownBlock.bind fun k => if base ≤ k then some k else none
theorem obk_some {base sl k} : obk base sl = some k ↔ sl.ownBlock = some k ∧ base ≤ k := by
  unfold obk
  cases sl.ownBlock with
  | none => simp
  | some j =>
    simp only [Option.bind_some, Option.some.injEq]
    split
    · simp only [Option.some.injEq]; exact ⟨fun e => by subst e; exact ⟨rfl, by assumption⟩, fun e => e.1⟩
    · exact ⟨fun e => (by cases e), fun ⟨e, h⟩ => (by subst e; contradiction)⟩
theorem obk_lt {base sl k} (h : k < base) : some k ≠ obk base sl := fun e => by have := (obk_some.1 e.symm).2; omega
theorem Bs.lt {w base sl zs} (h : Bs w base sl zs) : ∀ k, sl.ownBlock = some k → k < w.heap.size := by
  intro k hk
  rcases h with h | ⟨a, e, _, h⟩
  · exact (World.ownsRow.lt h k hk).2
  · subst e
    cases a with
    | none => cases hk
    | some p => rw [← (Option.some.inj hk)]; exact h p rfl
/-- What was written lies in the row. -/
theorem grown_obk {w w' : World} {base : Nat} {sl : Value} (h : w.grownBy w' sl.ownBlock) (hb : ∀ k, sl.ownBlock = some k → base ≤ k) : w.grownBy w' (obk base sl) :=
  ⟨h.os, h.tape, h.output, h.size, fun k hk hne => h.block k hk (fun e => hne (obk_some.2 ⟨e.symm, hb k e.symm⟩).symm)⟩
/-- Behind an append: what came of it, and what was left alone. -/
structure Ap (w w' : World) (base : Nat) (sl sl' : Value) (zs : List Int) : Prop where
  bs : Bs w' base sl' zs
  grew : w.grownBy w' (obk base sl)
  at_ : ∀ k, sl'.ownBlock = some k → sl.ownBlock = some k ∨ w.heap.size ≤ k
  ow : (∃ ys, Own w base sl ys) → Own w' base sl' zs
theorem Ap.trans {w w1 w2 base sl sl1 sl2 zs zs2} (h : Ap w w1 base sl sl1 zs) (g : Ap w1 w2 base sl1 sl2 zs2) : Ap w w2 base sl sl2 zs2 where
  bs := g.bs
  grew := ⟨g.grew.os.trans h.grew.os, g.grew.tape.trans h.grew.tape, g.grew.output.trans h.grew.output, Nat.le_trans h.grew.size g.grew.size, fun k hk hne => by
    rw [g.grew.block k (Nat.lt_of_lt_of_le hk h.grew.size) (fun e => by
      obtain ⟨e1, e3⟩ := obk_some.1 e.symm
      rcases h.at_ k e1 with e2 | e2
      · exact hne (obk_some.2 ⟨e2, e3⟩).symm
      · omega), h.grew.block k hk hne]⟩
  at_ := fun k hk => by
    rcases g.at_ k hk with e | e
    · exact h.at_ k e
    · exact .inr (Nat.le_trans h.grew.size e)
  ow := fun ho => g.ow ⟨_, h.ow ho⟩
/-- What a slice of the call's own holds is what it is said to hold. -/
theorem Own.eq {w : World} {base : Nat} {sl : Value} {ys zs : List Int} (h : Own w base sl ys) (g : Bs w base sl zs) : Own w base sl zs := by
  rcases g with g | ⟨a, e, hb, _⟩
  · exact g
  · subst e
    have key : ys = zs := by
      have h' := h
      rcases h with ⟨_, ⟨h1, h2⟩ | ⟨g, cap, cur, h1, _⟩⟩
      · simp only [Value.slice.injEq] at h1
        rw [List.eq_nil_of_length_eq_zero h2, List.eq_nil_of_length_eq_zero h1.2.1]
      · simp only [Value.slice.injEq] at h1
        obtain ⟨rfl, hlen, rfl⟩ := h1
        refine List.ext_getElem hlen.symm (fun j hj1 hj2 => ?_)
        have c1 := World.ownsRow.cells h' (g := g) rfl j (.int .u8 ys[j]) (by simp [u8s, List.getElem?_eq_getElem hj1])
        rw [addr_add] at c1
        obtain ⟨b2, o2, e2, c2, _⟩ := hb j hj2
        simp only [Option.some.injEq, Addr.mk.injEq] at e2
        obtain ⟨rfl, rfl, _⟩ := e2
        rw [c1] at c2
        simpa using c2
    subst key
    exact h
theorem Ap.refl {w base sl zs} (h : Bs w base sl zs) : Ap w w base sl sl zs := ⟨h, ⟨rfl, rfl, rfl, Nat.le_refl _, fun _ _ _ => rfl⟩, fun _ h => .inl h, fun ⟨_, ho⟩ => ho.eq h⟩

theorem BIn.below {w w' a zs} (h : BIn w a zs) (hb : Below w.heap.size w w') : BIn w' a zs := fun j hj => by
  obtain ⟨b, o, e, hc, r⟩ := h j hj
  exact ⟨b, o, e, keepc hb hc, r⟩
theorem Bs.below {w w' base sl zs} (h : Bs w base sl zs) (hb : Below w.heap.size w w') : Bs w' base sl zs := by
  rcases h with h | ⟨a, e, h, h2⟩
  · exact .inl (World.ownsRow.kept h (grownBy_of_below hb none) (by cases sl.ownBlock <;> simp))
  · exact .inr ⟨a, e, h.below hb, fun p hp => Nat.lt_of_lt_of_le (h2 p hp) hb.size⟩
theorem Own.below {w w' base sl zs} (h : Own w base sl zs) (hb : Below w.heap.size w w') : Own w' base sl zs :=
  World.ownsRow.kept h (grownBy_of_below hb none) (by cases sl.ownBlock <;> simp)
theorem Ap.below {w w1 w2 base sl sl' zs} (h : Ap w w1 base sl sl' zs) (hb : Below w1.heap.size w1 w2) : Ap w w2 base sl sl' zs :=
  h.trans ⟨h.bs.below hb, ⟨hb.os, hb.tape, hb.output, hb.size, fun k hk _ => hb.block k hk⟩, fun _ h => .inl h, fun ⟨_, ho⟩ => (ho.eq h.bs).below hb⟩

theorem infoB : (Try.prog.info? 5).map (fun i => (i.zero, i.size, i.bytes)) = some (some (.int .u8 0), 1, 1) := by kernel_rfl

theorem BIn.cells {w a zs} (h : BIn w a zs) : ∀ b, a = some b → ∀ j u, (u8s zs)[j]? = some u → w.cell? (b.add j) = some u := by
  intro b hb j u hu
  have hj : j < zs.length := by simpa using (List.getElem?_eq_some_iff.1 hu).1
  obtain ⟨b2, o, e, hc, _⟩ := h j hj
  rw [hb] at e
  obtain rfl := Option.some.inj e
  rw [addr_add, hc]
  simpa [u8s, List.getElem?_eq_getElem hj] using hu

theorem wpList_append_bs {ops : Array Oper} {rest : List Oper} {o : Oper} {a : Act} {Q : Exit → Act → World → Prop} (w : World) (hgd : o.guard = none) (s x : Operand)
    (ho : o.op = .call { callee := .builtin .append, args := #[s, x], argTypes := #[22, 22] }) (base : Nat) (sl : Value) (zs ys : List Int) (hs : a.eval s = sl) (hb : Bs w base sl zs)
    (ad : Addr) (m c : Nat) (hx : a.eval x = .slice (some ad) m c) (hm : ys.length = m) (hnews : ∀ j u, (u8s ys)[j]? = some u → w.cell? (ad.add j) = some u) (hm0 : 0 < m) (hbytes : zs.length + m ≤ 140737488355328) (hbase : base ≤ w.heap.size)
    (h : ∀ g cap w', Ap w w' base sl (.slice (some ⟨g, 0, none⟩) (zs.length + m) cap) (zs ++ ys) → wpList Try.prog ops Q rest (a.put o.dst (.slice (some ⟨g, 0, none⟩) (zs.length + m) cap)) w') : wpList Try.prog ops Q (o :: rest) a w := by
  obtain ⟨i, hi, hz0, hz1, hz2⟩ := info_parts infoB
  subst hm
  have hone : ∀ u ∈ u8s ys, u.oneCell' = true := by
    intro u hu
    obtain ⟨z, _, rfl⟩ := List.mem_map.1 hu
    rfl
  have hmax : zs.length + ys.length ≤ maxLen := by unfold maxLen; omega
  rcases hb with hown | ⟨ao, rfl, hbin, _⟩
  · refine wpList_append_lies w hgd s x _ ho base 5 i _ 1 1 Try.underlying22 hi hz0 hz1 hz2 rfl (by decide) sl zs.length (u8s zs) hs hown ad ys.length c (u8s ys) hx (by simp [u8s]) hnews hone hm0 hmax (by omega) hbase w.heap.size rfl ?_
    intro g cap w' h2 h3 h4 h5
    have hO : Own w' base (.slice (some ⟨g, 0, none⟩) (zs.length + ys.length) cap) (zs ++ ys) := by
      unfold Own
      rw [List.length_append]
      simpa [u8s] using h2
    refine h g cap w' ⟨.inl hO, grown_obk h3 (fun k hk => (World.ownsRow.lt hown k hk).1), fun k hk => ?_, fun _ => hO⟩
    · have : g = k := by simpa [Value.ownBlock] using hk
      subst this
      rcases h4 with h4 | h4
      · exact .inl h4
      · exact .inr (by omega)
  · refine wpList_append_grows w hgd s x _ ho 5 i _ 1 1 Try.underlying22 hi hz0 hz1 hz2 rfl (by decide) ao zs.length zs.length (u8s zs) hs (fun e => ?_) (by simp [u8s]) hbin.cells ad ys.length c (u8s ys) hx (by simp [u8s]) hnews hone (by omega) hmax (by omega) ?_
    · subst e
      cases zs with
      | nil => exact ⟨rfl, rfl⟩
      | cons z zs => obtain ⟨b, o, e, _⟩ := hbin 0 (by simp); cases e
    · intro v' w' h2 h3
      obtain ⟨g, cap, rfl⟩ := Joins.ownsRow_form h2 (by omega)
      have hO : Own w' base (.slice (some ⟨g, 0, none⟩) (zs.length + ys.length) cap) (zs ++ ys) := by
        unfold Own
        rw [List.length_append]
        have := Joins.ownsRow_le h2 hbase
        simpa [u8s] using this
      refine h g cap w' ⟨.inl hO, ?_, fun k hk => ?_, fun _ => hO⟩
      · exact ⟨h3.os, h3.tape, h3.output, h3.size, fun k hk _ => h3.block k hk (by simp)⟩
      · have : g = k := by simpa [Value.ownBlock] using hk
        subst this
        exact .inr (h2.lt g rfl).1
end Go.Proofs.Ytkhgbbloeeaceaa
