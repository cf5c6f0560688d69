/- Values as plain data, and what it means that they lie in memory. -/
import Derived.WalkKit
import Derived.Lib.Hide
import Derived.Lib.Bytealg
import GoSem.Core.Float
namespace Go.Proofs.Ytkhgbbloeeaceaa
open Go Go.RowKit
set_option maxRecDepth 16000

/-- A value as plain data: its kind, whole number, float's bits, text, list. -/
inductive V where
  | mk (k i : Int) (f : Nat) (s : ByteArray) (l : List V)

namespace V
def k : V → Int | mk k _ _ _ _ => k
def i : V → Int | mk _ i _ _ _ => i
def f : V → Nat | mk _ _ f _ _ => f
def s : V → ByteArray | mk _ _ _ s _ => s
def l : V → List V | mk _ _ _ _ l => l
@[simp] theorem k_mk (k i f s l) : (mk k i f s l).k = k := rfl
@[simp] theorem i_mk (k i f s l) : (mk k i f s l).i = i := rfl
@[simp] theorem f_mk (k i f s l) : (mk k i f s l).f = f := rfl
@[simp] theorem s_mk (k i f s l) : (mk k i f s l).s = s := rfl
@[simp] theorem l_mk (k i f s l) : (mk k i f s l).l = l := rfl

/-- Induction: a value, if each of its list has it. -/
theorem induct {p : V → Prop} (h : ∀ k i f s l, (∀ x ∈ l, p x) → p (mk k i f s l)) (t : V) : p t :=
  V.rec (motive_1 := p) (motive_2 := fun l => ∀ x ∈ l, p x) (fun k i f s l ih => h k i f s l ih) (fun _ hx => by cases hx)
    (fun a b iha ihb x hx => by
      rcases List.mem_cons.1 hx with e | e
      · subst e; exact iha
      · exact ihb x e) t
end V

mutual
/-- The list of t lies in w as the slice value sl, in blocks of D. -/
def VIn (D : Nat → Prop) (w : World) : V → Value → Prop
  | .mk k i f s l, sl => (Lit.int .i64 k).wf = true ∧ (Lit.int .i64 i).wf = true ∧ f < 2 ^ 64 ∧ s.size ≤ 140737488351232 ∧ l.length * 64 ≤ 140737488351232 ∧
    ∃ a c, sl = .slice a l.length c ∧ l.length ≤ c ∧ c ≤ 9223372036854775807 ∧ (a = none → c = 0) ∧ (l = [] ∨ ∃ b o, a = some ⟨b, o, none⟩ ∧ EIn D w b o l)
/-- The elements lie in block b from o on, five cells each. -/
def EIn (D : Nat → Prop) (w : World) (b : Nat) (o : Nat) : List V → Prop
  | [] => True
  | t :: ts => (D b ∧ ∃ sl, w.cell? ⟨b, o, none⟩ = some (.int .i64 t.k) ∧ w.cell? ⟨b, o + 1, none⟩ = some (.int .i64 t.i) ∧ w.cell? ⟨b, o + 2, none⟩ = some (.float .f64 t.f) ∧
      w.cell? ⟨b, o + 3, none⟩ = some (.string t.s) ∧ w.cell? ⟨b, o + 4, none⟩ = some sl ∧ VIn D w t sl) ∧ EIn D w b (o + 5) ts
end

/-- A value as Go has it. -/
def V.val (t : V) (sl : Value) : Value := .agg #[.int .i64 t.k, .int .i64 t.i, .float .f64 t.f, .string t.s, sl]

theorem VIn.parts {D w k i f s l sl} (h : VIn D w (.mk k i f s l) sl) : (Lit.int .i64 k).wf = true ∧ (Lit.int .i64 i).wf = true ∧ f < 2 ^ 64 ∧ s.size ≤ 140737488351232 ∧ l.length * 64 ≤ 140737488351232 ∧
    ∃ a c, sl = .slice a l.length c ∧ l.length ≤ c ∧ c ≤ 9223372036854775807 ∧ (a = none → c = 0) ∧ (l = [] ∨ ∃ b o, a = some ⟨b, o, none⟩ ∧ EIn D w b o l) := by
  unfold VIn at h; exact h
theorem VIn.of {D w k i f s l sl} (h : (Lit.int .i64 k).wf = true ∧ (Lit.int .i64 i).wf = true ∧ f < 2 ^ 64 ∧ s.size ≤ 140737488351232 ∧ l.length * 64 ≤ 140737488351232 ∧
    ∃ a c, sl = .slice a l.length c ∧ l.length ≤ c ∧ c ≤ 9223372036854775807 ∧ (a = none → c = 0) ∧ (l = [] ∨ ∃ b o, a = some ⟨b, o, none⟩ ∧ EIn D w b o l)) : VIn D w (.mk k i f s l) sl := by
  unfold VIn; exact h

theorem VIn.form {D w t sl} (h : VIn D w t sl) : ∃ a c, sl = .slice a t.l.length c := by
  cases t with
  | mk k i f s l => obtain ⟨_, _, _, _, _, a, c, e, _⟩ := h.parts; exact ⟨a, c, e⟩

/-- Element j. -/
theorem EIn.get {D w b} : ∀ {l : List V} {o : Nat}, EIn D w b o l → ∀ {j : Nat} (hj : j < l.length), D b ∧ ∃ a c, w.cell? ⟨b, o + j * 5, none⟩ = some (.int .i64 l[j].k) ∧ w.cell? ⟨b, o + j * 5 + 1, none⟩ = some (.int .i64 l[j].i) ∧
    w.cell? ⟨b, o + j * 5 + 2, none⟩ = some (.float .f64 l[j].f) ∧ w.cell? ⟨b, o + j * 5 + 3, none⟩ = some (.string l[j].s) ∧ w.cell? ⟨b, o + j * 5 + 4, none⟩ = some (.slice a l[j].l.length c) ∧ VIn D w l[j] (.slice a l[j].l.length c)
  | [], _, _, j, hj => by simp at hj
  | t :: ts, o, h, j, hj => by
    unfold EIn at h
    cases j with
    | zero =>
      obtain ⟨⟨hb, sl, h1, h2, h3, h4, h5, h6⟩, _⟩ := h
      obtain ⟨a, c, rfl⟩ := h6.form
      exact ⟨hb, a, c, by simpa using h1, by simpa using h2, by simpa using h3, by simpa using h4, by simpa using h5, by simpa using h6⟩
    | succ j =>
      have := EIn.get (l := ts) (o := o + 5) h.2 (j := j) (by simpa using hj)
      simpa [Nat.succ_mul, Nat.add_assoc, Nat.add_comm 5, Nat.add_left_comm 5] using this

mutual
/-- What lies in blocks of D lies there in a world with the same blocks. -/
theorem VIn.keep {D D' : Nat → Prop} {w w' : World} (hw : ∀ b, D b → b < w.heap.size → w'.heap[b]? = w.heap[b]?) (hd : ∀ b, D b → b < w.heap.size → D' b) : ∀ {t : V} {sl : Value}, VIn D w t sl → VIn D' w' t sl
  | .mk k i f s l, sl, h => by
    obtain ⟨h1, h2, h3, h4, h5, a, c, e1, e2, e3, e4, h6⟩ := h.parts
    refine VIn.of ⟨h1, h2, h3, h4, h5, a, c, e1, e2, e3, e4, ?_⟩
    rcases h6 with h6 | ⟨b, o, e5, e6⟩
    · exact .inl h6
    · exact .inr ⟨b, o, e5, EIn.keep hw hd e6⟩
theorem EIn.keep {D D' : Nat → Prop} {w w' : World} (hw : ∀ b, D b → b < w.heap.size → w'.heap[b]? = w.heap[b]?) (hd : ∀ b, D b → b < w.heap.size → D' b) : ∀ {l : List V} {b o : Nat}, EIn D w b o l → EIn D' w' b o l
  | [], _, _, _ => by unfold EIn; trivial
  | t :: ts, b, o, h => by
    unfold EIn at h ⊢
    obtain ⟨⟨hb, sl, c0, c1, c2, c3, c4, hv⟩, hr⟩ := h
    have hlt : b < w.heap.size := World.block_lt_of_cell? w _ c0
    have hc : ∀ n, w'.cell? ⟨b, n, none⟩ = w.cell? ⟨b, n, none⟩ := fun n => World.cell?_of_block (hw b hb hlt)
    exact ⟨⟨hd b hb hlt, sl, by rw [hc]; exact c0, by rw [hc]; exact c1, by rw [hc]; exact c2, by rw [hc]; exact c3, by rw [hc]; exact c4, VIn.keep hw hd hv⟩, EIn.keep hw hd hr⟩
end

/-- Behind a call that turned nothing below the heap's size. -/
theorem VIn.below {D : Nat → Prop} {w w' : World} {t sl} (h : VIn D w t sl) (hb : Below w.heap.size w w') : VIn D w' t sl :=
  h.keep (fun b _ hlt => hb.block b hlt) (fun _ h _ => h)

theorem EIn.below {D : Nat → Prop} {w w' : World} {b o l} (h : EIn D w b o l) (hb : Below w.heap.size w w') : EIn D w' b o l :=
  h.keep (fun b _ hlt => hb.block b hlt) (fun _ h _ => h)

/-- A cell known before a call is known behind it. -/
theorem keepc {w w1 : World} (hb : Below w.heap.size w w1) {b o : Nat} {v : Value} (h : w.cell? ⟨b, o, none⟩ = some v) : w1.cell? ⟨b, o, none⟩ = some v :=
  (hb.cell (p := ⟨b, o, none⟩) (World.block_lt_of_cell? w _ h)).trans h

theorem keepf {w w1 : World} (hb : Below w.heap.size w w1) {b o : Nat} (hlt : b < w.heap.size) (h : w.frozen? ⟨b, o, none⟩ = false) : w1.frozen? ⟨b, o, none⟩ = false :=
  (hb.frozen (p := ⟨b, o, none⟩) hlt).trans h
theorem keepcB {B : Nat} {w w1 : World} (hb : Below B w w1) {b o : Nat} (hlt : b < B) {v : Value} (h : w.cell? ⟨b, o, none⟩ = some v) : w1.cell? ⟨b, o, none⟩ = some v :=
  (hb.cell (p := ⟨b, o, none⟩) hlt).trans h
theorem keepfB {B : Nat} {w w1 : World} (hb : Below B w w1) {b o : Nat} (hlt : b < B) (h : w.frozen? ⟨b, o, none⟩ = false) : w1.frozen? ⟨b, o, none⟩ = false :=
  (hb.frozen (p := ⟨b, o, none⟩) hlt).trans h

/-- A value's five cells lie at block b. -/
abbrev at5 (w : World) (b : Nat) (k i : Int) (f : Nat) (s : ByteArray) (sl : Value) : Prop :=
  w.cell? ⟨b, 0, none⟩ = some (.int .i64 k) ∧ w.cell? ⟨b, 1, none⟩ = some (.int .i64 i) ∧ w.cell? ⟨b, 2, none⟩ = some (.float .f64 f) ∧ w.cell? ⟨b, 3, none⟩ = some (.string s) ∧ w.cell? ⟨b, 4, none⟩ = some sl
theorem at5.keep {w w1 : World} (hb : Below w.heap.size w w1) {b k i f s sl} (h : at5 w b k i f s sl) : at5 w1 b k i f s sl :=
  ⟨keepc hb h.1, keepc hb h.2.1, keepc hb h.2.2.1, keepc hb h.2.2.2.1, keepc hb h.2.2.2.2⟩
theorem at5.new {w : World} {k i f s sl t} : at5 (w.alloc (.cells #[.int .i64 k, .int .i64 i, .float .f64 f, .string s, sl] t)) w.heap.size k i f s sl := by
  simp [at5]
/-- Two values that were laid at the begin of a call from w0. -/
abbrev two (w0 w : World) (k i : Int) (f : Nat) (s : ByteArray) (sl : Value) (k2 i2 : Int) (f2 : Nat) (s2 : ByteArray) (sl2 : Value) : Prop :=
  at5 w w0.heap.size k i f s sl ∧ at5 w (w0.heap.size + 1) k2 i2 f2 s2 sl2 ∧ Below w0.heap.size w0 w ∧ w0.heap.size + 1 < w.heap.size
theorem two.keep {w0 w w1 : World} (hb : Below w.heap.size w w1) {k i f s sl k2 i2 f2 s2 sl2} (h : two w0 w k i f s sl k2 i2 f2 s2 sl2) : two w0 w1 k i f s sl k2 i2 f2 s2 sl2 :=
  ⟨h.1.keep hb, h.2.1.keep hb, h.2.2.1.trans (hb.mono (by have := h.2.2.2; omega)), Nat.lt_of_lt_of_le h.2.2.2 hb.size⟩
theorem two.start {w0 : World} {k i f s sl k2 i2 f2 s2 sl2 t t2} : two w0 ((w0.alloc (.cells #[.int .i64 k, .int .i64 i, .float .f64 f, .string s, sl] t)).alloc (.cells #[.int .i64 k2, .int .i64 i2, .float .f64 f2, .string s2, sl2] t2)).drew k i f s sl k2 i2 f2 s2 sl2 := by
  have e : (w0.alloc (.cells #[.int .i64 k, .int .i64 i, .float .f64 f, .string s, sl] t)).heap.size = w0.heap.size + 1 := by simp
  have b1 : Below (w0.alloc (.cells #[.int .i64 k, .int .i64 i, .float .f64 f, .string s, sl] t)).heap.size (w0.alloc (.cells #[.int .i64 k, .int .i64 i, .float .f64 f, .string s, sl] t)) ((w0.alloc (.cells #[.int .i64 k, .int .i64 i, .float .f64 f, .string s, sl] t)).alloc (.cells #[.int .i64 k2, .int .i64 i2, .float .f64 f2, .string s2, sl2] t2)) := (Below.refl _ _).alloc (Nat.le_refl _) _
  have h2 := at5.new (w := w0.alloc (.cells #[.int .i64 k, .int .i64 i, .float .f64 f, .string s, sl] t)) (k := k2) (i := i2) (f := f2) (s := s2) (sl := sl2) (t := t2)
  rw [e] at h2
  exact ⟨at5.new.keep b1, h2, (((Below.refl _ _).alloc (Nat.le_refl _) _).alloc (by simp) _).drew, by simp⟩

/-- All that was known of W's own blocks is known in w'. -/
abbrev Held (W w : World) : Prop := (∀ b n, b < W.heap.size → w.cell? ⟨b, n, none⟩ = W.cell? ⟨b, n, none⟩) ∧ Below W.heap.size W w
theorem Held.of {W w : World} (h : Below W.heap.size W w) : Held W w := ⟨fun b n hb => h.cell (p := ⟨b, n, none⟩) hb, h⟩
theorem Held.start {W : World} : Held W W.drew := .of (Below.refl _ _).drew
theorem Held.keep {W w w1 : World} (hb : Below w.heap.size w w1) (h : Held W w) : Held W w1 := .of (h.2.trans (hb.mono h.2.size))
theorem VIn.held {D : Nat → Prop} {W w : World} {t sl} (h : VIn D W t sl) (hb : Held W w) : VIn D w t sl := h.below hb.2

mutual
/-- Sizes, as Go counts them, but never wrapped. -/
def V.size : V → Int
  | .mk k _ _ s l => if k = 1 ∨ k = 2 then 9 else if k = 3 then 3 + s.size else if k = 4 then 2 + V.sizes l else 1
def V.sizes : List V → Int
  | [] => 0
  | t :: ts => V.size t + V.sizes ts
end
theorem V.size_mk (k i f s l) : (V.mk k i f s l).size = if k = 1 ∨ k = 2 then 9 else if k = 3 then 3 + (s.size : Int) else if k = 4 then 2 + V.sizes l else 1 := by rw [V.size]
@[simp] theorem V.sizes_nil : V.sizes [] = 0 := by rw [V.sizes]
@[simp] theorem V.sizes_cons (t ts) : V.sizes (t :: ts) = t.size + V.sizes ts := by rw [V.sizes]
theorem V.sizes_append (a b) : V.sizes (a ++ b) = V.sizes a + V.sizes b := by
  induction a with
  | nil => simp
  | cons t ts ih => simp [ih, Int.add_assoc]
theorem V.sizes_take (l : List V) (j : Nat) (hj : j < l.length) : V.sizes (l.take (j + 1)) = V.sizes (l.take j) + l[j].size := by
  rw [List.take_succ_eq_append_getElem hj, V.sizes_append]; simp

/-- Numbers, texts, nothing, as values. -/
def V.int (n : Int) : V := .mk 1 n 0 ⟨#[]⟩ []
def V.flt (f : Nat) : V := .mk 2 0 f ⟨#[]⟩ []
def V.txt (s : ByteArray) : V := .mk 3 0 0 s []
def V.lst (l : List V) : V := .mk 4 0 0 ⟨#[]⟩ l
def V.nil : V := .mk 0 0 0 ⟨#[]⟩ []

mutual
/-- Are lists deeper in one another than m? -/
def V.deep : V → Nat → Bool
  | .mk k _ _ _ l, m => if k = 4 then (if m = 0 then true else V.deeps l (m - 1)) else false
def V.deeps : List V → Nat → Bool
  | [], _ => false
  | t :: ts, m => V.deep t m || V.deeps ts m
end
theorem V.deep_mk (k i f s l m) : (V.mk k i f s l).deep m = if k = 4 then (if m = 0 then true else V.deeps l (m - 1)) else false := by rw [V.deep]
theorem V.deeps_any (l m) : V.deeps l m = l.any (fun t => t.deep m) := by
  induction l with
  | nil => rw [V.deeps]; rfl
  | cons t ts ih => rw [V.deeps, ih]; rfl
theorem any_take_succ {α} (p : α → Bool) (l : List α) (j : Nat) (hj : j < l.length) : (l.take (j + 1)).any p = ((l.take j).any p || p l[j]) := by
  rw [List.take_succ_eq_append_getElem hj, List.any_append]; simp
theorem any_of_get {α} (p : α → Bool) (l : List α) (j : Nat) (hj : j < l.length) (h : p l[j] = true) : l.any p = true :=
  List.any_eq_true.2 ⟨_, List.getElem_mem hj, h⟩

def cmpI (a b : Int) : Int := if a < b then -1 else if b < a then 1 else 0
def wayI (less more : Bool) : Int := if less then -1 else if more then 1 else 0
def kindI (k : Int) : Int := if k < 0 ∨ 4 < k then 0 else k
/-- Is it NaN? -/
def nan (a : Nat) : Bool := FloatKind.f64.format.order a a != some Ordering.eq
def flt (a b : Nat) : Bool := FloatKind.f64.format.order a b == some Ordering.lt
def fgt (a b : Nat) : Bool := FloatKind.f64.format.order a b == some Ordering.gt
def feq (a b : Nat) : Bool := FloatKind.f64.format.order a b == some Ordering.eq
def cmpF (a b : Nat) : Int := if nan a then (if nan b then 0 else -1) else if nan b then 1 else if flt a b then -1 else if fgt a b then 1 else 0
/-- The sign's bit is set: 0, else 1. -/
def sgnB (f : Nat) : Bool := decide (wrap64 f < 0)
def signI (f : Nat) : Int := if sgnB f then 0 else 1
def floatsI (a b : Nat) : Int := if feq a 0 && feq b 0 then cmpI (signI a) (signI b) else cmpF a b
def canonN (f : Nat) : Nat := if nan f then 9221120237041090561 else f

mutual
/-- The order of values: -1, 0, 1. -/
def V.ord : V → V → Int
  | .mk k i f s l, t => if kindI k ≠ kindI t.k then cmpI (kindI k) (kindI t.k) else if k = 1 then cmpI i t.i else if k = 2 then floatsI f t.f else
      if k = 3 then Lib.compareBytes s.data.toList t.s.data.toList else if k = 4 then V.ords l t.l else 0
def V.ords : List V → List V → Int
  | [], [] => 0
  | [], _ :: _ => -1
  | _ :: _, [] => 1
  | a :: as, b :: bs => if V.ord a b ≠ 0 then V.ord a b else V.ords as bs
end
theorem V.ord_mk (k i f s l t) : (V.mk k i f s l).ord t = if kindI k ≠ kindI t.k then cmpI (kindI k) (kindI t.k) else if k = 1 then cmpI i t.i else if k = 2 then floatsI f t.f else
      if k = 3 then Lib.compareBytes s.data.toList t.s.data.toList else if k = 4 then V.ords l t.l else 0 := by rw [V.ord]

/-- The lists' first m are alike. -/
def V.likeTo (a b : List V) (m : Nat) : Prop := ∀ j, j < m → ∀ (ha : j < a.length) (hb : j < b.length), V.ord a[j] b[j] = 0
theorem V.ords_at : ∀ (a b : List V) (m : Nat), V.likeTo a b m → ∀ (ha : m < a.length) (hb : m < b.length), V.ord a[m] b[m] ≠ 0 → V.ords a b = V.ord a[m] b[m]
  | [], _, _, _, ha, _, _ => by simp at ha
  | _ :: _, [], _, _, _, hb, _ => by simp at hb
  | x :: as, y :: bs, m, hl, ha, hb, h => by
    rw [V.ords]
    cases m with
    | zero => simp only [List.getElem_cons_zero] at h ⊢; rw [if_pos h]
    | succ m =>
      have h0 := hl 0 (by omega) (by simp) (by simp)
      simp only [List.getElem_cons_zero] at h0
      rw [if_neg (by simp [h0])]
      simp only [List.getElem_cons_succ] at h ⊢
      exact V.ords_at as bs m (fun j hj ha hb => by have := hl (j + 1) (by omega) (by simpa using ha) (by simpa using hb); simpa using this) (by simpa using ha) (by simpa using hb) h
theorem V.ords_end : ∀ (a b : List V) (m : Nat), V.likeTo a b m → (a.length ≤ m ∨ b.length ≤ m) → V.ords a b = cmpI a.length b.length
  | [], [], _, _, _ => by rw [V.ords]; rfl
  | [], _ :: bs, _, _, _ => by rw [V.ords]; unfold cmpI; rw [if_pos (by simp only [List.length_nil, List.length_cons]; omega)]
  | _ :: as, [], _, _, _ => by rw [V.ords]; unfold cmpI; rw [if_neg (by simp only [List.length_nil, List.length_cons]; omega), if_pos (by simp only [List.length_nil, List.length_cons]; omega)]
  | x :: as, y :: bs, m, hl, h => by
    rw [V.ords]
    have hm : 0 < m := by rcases h with h | h <;> simp at h <;> omega
    have h0 := hl 0 hm (by simp) (by simp)
    simp only [List.getElem_cons_zero] at h0
    rw [if_neg (by simp [h0])]
    rw [V.ords_end as bs (m - 1) (fun j hj ha hb => by have := hl (j + 1) (by omega) (by simpa using ha) (by simpa using hb); simpa using this) (by simp at h; omega)]
    unfold cmpI
    simp only [List.length_cons]
    split <;> split <;> (try split) <;> (try split) <;> omega
theorem V.likeTo_succ {a b : List V} {m : Nat} (h : V.likeTo a b m) (ha : m < a.length) (hb : m < b.length) (h0 : V.ord a[m] b[m] = 0) : V.likeTo a b (m + 1) := by
  intro j hj ha' hb'
  by_cases e : j = m
  · subst e; exact h0
  · exact h j (by omega) ha' hb'

theorem cmpI_self (a : Int) : cmpI a a = 0 := by unfold cmpI; rw [if_neg (by omega), if_neg (by omega)]
theorem cmpI_ne {a b : Int} (h : a ≠ b) : cmpI a b ≠ 0 := by unfold cmpI; split <;> (try split) <;> omega
theorem kindI_cases (k : Int) : (k = 1 ∧ kindI k = 1) ∨ (k = 2 ∧ kindI k = 2) ∨ (k = 3 ∧ kindI k = 3) ∨ (k = 4 ∧ kindI k = 4) ∨ (k ≠ 1 ∧ k ≠ 2 ∧ k ≠ 3 ∧ k ≠ 4 ∧ kindI k = 0) := by
  unfold kindI; split <;> omega

theorem text_way : ∀ a b : List UInt8, wayI (Op.bytesLess a b) (!Op.bytesLess a b && !(a == b)) = Lib.compareBytes a b
  | [], [] => rfl
  | [], _ :: _ => rfl
  | _ :: _, [] => rfl
  | x :: a, y :: b => by
    have ih := text_way a b
    unfold Lib.compareBytes Op.bytesLess
    by_cases h : x < y
    · simp [h, wayI]
    · by_cases h2 : y < x
      · have hne : (x == y) = false := by
          simp only [beq_eq_false_iff_ne, ne_eq]; intro e; subst e; exact h h2
        have hne2 : (x :: a == y :: b) = false := by
          simp only [beq_eq_false_iff_ne, ne_eq, List.cons.injEq]; rintro ⟨e, _⟩; subst e; exact h h2
        simp only [h, h2, hne, hne2, decide_false, Bool.false_or, Bool.false_and, Bool.not_false, Bool.and_self, wayI]; rfl
      · have e : x = y := UInt8.le_antisymm (UInt8.not_lt.1 h2) (UInt8.not_lt.1 h)
        subst e
        have e2 : (x :: a == x :: b) = (a == b) := by simp
        rw [e2]
        simp only [h, decide_false, beq_self_eq_true, Bool.true_and, Bool.false_or, if_false]
        exact ih

end Go.Proofs.Ytkhgbbloeeaceaa
