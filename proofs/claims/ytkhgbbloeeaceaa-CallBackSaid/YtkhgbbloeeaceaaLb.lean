/- Laws for the statements: b[:len:len]; an append of nothing. -/
import Derived.Test.YtkhgbbloeeaceaaLk
namespace Go.Proofs.Ytkhgbbloeeaceaa
open Go Go.RowKit
set_option maxRecDepth 16000

theorem elemB : Try.prog.elem 22 = 5 := by simp [Program.elem, Try.underlying22]
theorem sizeB (w : World) : (sizeOf 5).run Try.prog w = .ok 1 w := by
  obtain ⟨i, hi, _, hz1, _⟩ := info_parts infoB
  simp [sizeOf, typeInfo, hi, hz1]
/-- b[:n:n] -/
theorem sub_full (a : Option Addr) (n c : Nat) (h : n ≤ c) (w : World) :
    (Instr.slice 22 (.slice a n c) none (some (.int .i64 (n : Int))) (some (.int .i64 (n : Int)))).run Try.prog w = .ok (.slice a n n) w := by
  rw [run_slice_hm w 22 a n c (by rw [elemB]; exact Try.underlying22) .i64 .i64 n n (by omega) (by omega) (by omega), elemB, sizeB]
  simp [Result.andThen, sliced]
  intro _
  cases a with
  | none => rfl
  | some p => simp [Addr.add]
/-- An append of nothing. -/
theorem run_append_bs0 (w : World) (base : Nat) (sl : Value) (zs : List Int) (hb : Bs w base sl zs) (hl : zs.length ≤ 9223372036854775807) (a : Option Addr) (c : Nat) (ty : TypeId) :
    (Builtin.append_ #[22, 22] ty #[sl, .slice a 0 c]).run Try.prog w = .ok sl w := by
  obtain ⟨i, hi, hz0, hz1, hz2⟩ := info_parts infoB
  obtain ⟨b, k, rfl, h1, _, _⟩ := hb.form hl
  cases b <;> cases a <;> simp [Builtin.append_, run_underlying Try.underlying22, sizeOf, typeInfo, hi, hz1, Builtin.lenOf, Builtin.firstCells, h1, storeCells, loadCells, loadCellsFrom]
theorem wpList_append_bs0 {ops : Array Oper} {rest : List Oper} {o : Oper} {a : Act} {Q : Exit → Act → World → Prop} (w : World) (hgd : o.guard = none) (s x : Operand)
    (ho : o.op = .call { callee := .builtin .append, args := #[s, x], argTypes := #[22, 22] }) (base : Nat) (sl : Value) (zs : List Int) (hs : a.eval s = sl) (hb : Bs w base sl zs) (hl : zs.length ≤ 9223372036854775807)
    (ax : Option Addr) (c : Nat) (hx : a.eval x = .slice ax 0 c) (h : wpList Try.prog ops Q rest (a.put o.dst sl) w) : wpList Try.prog ops Q (o :: rest) a w := by
  refine wpList_plain hgd fun K hK => ?_
  have hr := run_append_bs0 w base sl zs hb hl ax c o.type
  unfold Oper.wp execOp
  simp only [ho, resolve, invoke, builtin, Sem.run_bind, Sem.run_pure, Result.andThen_ok, List.map_toArray, List.map_cons, List.map_nil, hs, hx, hr]
  exact hK _ _ h
/-- An append to nothing. -/
theorem wpList_append_bsn {ops : Array Oper} {rest : List Oper} {o : Oper} {a : Act} {Q : Exit → Act → World → Prop} (w : World) (hgd : o.guard = none) (s x : Operand)
    (ho : o.op = .call { callee := .builtin .append, args := #[s, x], argTypes := #[22, 22] }) (base : Nat) (ys : List Int) (hs : a.eval s = .slice none 0 0)
    (ad : Addr) (m c : Nat) (hx : a.eval x = .slice (some ad) m c) (hm : ys.length = m) (hnews : ∀ j u, (u8s ys)[j]? = some u → w.cell? (ad.add j) = some u) (hm0 : 0 < m) (hbytes : m ≤ 140737488355328) (hbase : base ≤ w.heap.size)
    (h : ∀ g cap w', Ap w w' base (.slice none 0 0) (.slice (some ⟨g, 0, none⟩) m cap) ys → wpList Try.prog ops Q rest (a.put o.dst (.slice (some ⟨g, 0, none⟩) m cap)) w') : wpList Try.prog ops Q (o :: rest) a w := by
  refine wpList_append_bs w hgd s x ho base (.slice none 0 0) [] ys hs Bs.nil ad m c hx hm hnews hm0 (by simpa using hbytes) hbase ?_
  intro g cap w' hap
  have e : ([] : List Int).length + m = m := by simp
  rw [e] at hap ⊢
  exact h g cap w' hap
theorem Bs.at_ {w : World} {base : Nat} {a : Option Addr} {n c : Nat} {zs : List Int} (h : Bs w base (.slice a n c) zs) (hl : zs.length ≤ 9223372036854775807) (hz : Byt zs) : n = zs.length ∧ (n ≤ c ∧ c ≤ 9223372036854775807) ∧ (a = none → c = 0) ∧ BIn w a zs := by
  obtain ⟨a', c', e, h1, h2, h3⟩ := h.form hl
  simp only [Value.slice.injEq] at e
  obtain ⟨rfl, rfl, rfl⟩ := e
  exact ⟨rfl, ⟨h1, h2⟩, h3, h.bin hz⟩
theorem V.parts (t : V) : ∃ k i f s l, t = V.mk k i f s l := by cases t; exact ⟨_, _, _, _, _, rfl⟩
/-- Three things that a law keeps: two values laid, all below. -/
abbrev duo (w0 w : World) (b : Nat) (k i : Int) (f : Nat) (s : ByteArray) (sl : Value) (b2 : Nat) (k2 i2 : Int) (f2 : Nat) (s2 : ByteArray) (sl2 : Value) : Prop := at5 w b k i f s sl ∧ at5 w b2 k2 i2 f2 s2 sl2 ∧ Below w0.heap.size w0 w
theorem duo.keep {w0 w w1 : World} (hb : Below w.heap.size w w1) {b k i f s sl b2 k2 i2 f2 s2 sl2} (h : duo w0 w b k i f s sl b2 k2 i2 f2 s2 sl2) : duo w0 w1 b k i f s sl b2 k2 i2 f2 s2 sl2 :=
  ⟨h.1.keep hb, h.2.1.keep hb, h.2.2.trans (hb.mono h.2.2.size)⟩
/-- What is appended to nothing leaves all below. -/
theorem apn_below {B : Nat} {w w' : World} {base : Nat} {sl' : Value} {zs : List Int} (hB : B ≤ w.heap.size) (h : Ap w w' base (.slice none 0 0) sl' zs) : Below B w w' :=
  ⟨h.grew.os, h.grew.tape, h.grew.output, h.grew.size, fun k hk => h.grew.block k (by omega) (by simp [obk, Value.ownBlock])⟩
theorem Read1_n {a : Option Addr} {c N : Nat} {zs : List Int} {w : World} {r : V × Int × Int} (hr : vread (rd false 9 zs) = r) (hN : zs.length = N) (hl : N ≤ 140737488355328 ∧ N ≤ c ∧ c ≤ 9223372036854775807) (hc : a = none → c = 0) (hz : BIn w a zs) :
    Calls Try.prog 41 #[.slice a N c] w (RetR w r) := by
  subst hr; subst hN
  exact Read1_c a c zs w hl.2 hc hz
end Go.Proofs.Ytkhgbbloeeaceaa
