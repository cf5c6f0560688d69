/- A reply is put. -/
import Derived.Test.YtbncfpbaifnikaaN
import Derived.Deep.RegionHeld3
namespace Go.Proofs.Ytbncfpbaifnikaa
open Go Go.RowKit
attribute [local go_sem ↓] run_store_float

/-- A flat reply cleaned. -/
def cfR (r : Rp) : Rp := if r.k = 1 then { r with k := 1, f := 0, t := ⟨#[]⟩ } else if r.k = 2 then { r with k := 2, i := 0, f := canonN r.f, t := ⟨#[]⟩ } else if r.k = 3 then { r with k := 3, i := 0, f := 0 } else { r with k := 0, i := 0, f := 0, t := ⟨#[]⟩ }
theorem cfR_id (r : Rp) : (cfR r).c = r.c ∧ (cfR r).s = r.s ∧ (cfR r).n = r.n ∧ (cfR r).e = r.e := by
  unfold cfR; split
  · exact ⟨rfl, rfl, rfl, rfl⟩
  · split
    · exact ⟨rfl, rfl, rfl, rfl⟩
    · split <;> exact ⟨rfl, rfl, rfl, rfl⟩
theorem cf_cfR (r : Rp) : cf r.k r.i r.f r.t = fval (cfR r).k (cfR r).i (cfR r).f (cfR r).t := by
  unfold cf cfR
  split
  · rfl
  · split
    · rfl
    · split <;> rfl
theorem cells_cfR (r : Rp) : (cfR r).cells = [.int .u32 r.c, .int .u32 r.s, .int .u16 r.n, .int .i64 r.e, .int .i64 (cfR r).k, .int .i64 (cfR r).i, .float .f64 (cfR r).f, .string (cfR r).t, .slice none 0 0] := by
  obtain ⟨h1, h2, h3, h4⟩ := cfR_id r
  unfold Rp.cells; rw [h1, h2, h3, h4]

theorem wfc0 : (Lit.int .i64 0).wf = true := by decide
theorem wfc1 : (Lit.int .i64 1).wf = true := by decide
theorem wfc2 : (Lit.int .i64 2).wf = true := by decide
theorem wfc3 : (Lit.int .i64 3).wf = true := by decide
theorem fc0 : (0 : Nat) < 2 ^ 64 := by decide
theorem tc0 : (⟨#[]⟩ : ByteArray).size ≤ 140737488351232 := by decide
theorem cfR_ok {r : Rp} (h : r.ok) : (cfR r).ok := by
  obtain ⟨h1, h2, h3, h4⟩ := h
  unfold cfR; split
  · exact ⟨wfc1, h2, fc0, tc0⟩
  · split
    · exact ⟨wfc2, wfc0, canonN_lt h3, tc0⟩
    · split
      · exact ⟨wfc3, wfc0, fc0, h4⟩
      · exact ⟨wfc0, wfc0, fc0, tc0⟩

def Vt.put (v : Vt) (x : Int) (r : Rp) : Vt :=
  let l := v.l ++ [cfR r]
  if v.is then { v with who := v.who ++ [x], l := l } else { v with who := v.who ++ [x], l := l, is := (decR (needI v.p v.n) l).2, res := (decR (needI v.p v.n) l).1 }

theorem infoI : (Try.prog.info? 3).map (fun i => (i.zero, i.size, i.bytes)) = some (some (.int .i64 0), 1, 8) := by kernel_rfl
theorem infoR : (Try.prog.info? 32).map (fun i => (i.zero, i.size, i.bytes)) = some (some (.agg #[.int .u32 0, .int .u32 0, .int .u16 0, .int .i64 0, .int .i64 0, .int .i64 0, .float .f64 0, .string ⟨#[]⟩, .slice none 0 0]), 9, 88) := by kernel_rfl

/-- The cells of the who row. -/
theorem VoteIn.whoCells {w vb v wa la} (h : VoteIn w vb v wa la) {a c} (ha : wa = .slice a v.who.length c) : ∀ j (hj : j < v.who.length), ∃ b o, a = some ⟨b, o, none⟩ ∧ w.cell? ⟨b, o + j, none⟩ = some (.int .i64 v.who[j]) := by
  intro j hj
  rcases h.2.1.2 with ⟨_, h0⟩ | ⟨g, cap, cur, hv, _⟩
  · omega
  · rw [ha] at hv
    simp only [Value.slice.injEq] at hv
    refine ⟨g, 0, hv.1, ?_⟩
    have := h.2.1.cells (g := g) (by rw [ha, hv.1]; rfl) j (.int .i64 v.who[j]) (by simp [hj])
    have hadd : (⟨g, 0, none⟩ : Addr).add j = ⟨g, 0 + j, none⟩ := by unfold Addr.add; split <;> simp_all
    rwa [hadd] at this

theorem flatMap_get : ∀ (l : List Rp) (j i : Nat) (hj : j < l.length) (_ : i < 9), (l.flatMap Rp.cells)[j * 9 + i]? = (l[j].cells)[i]?
  | [], _, _, h, _ => by simp at h
  | x :: xs, 0, i, _, hi => by
    rw [List.flatMap_cons, List.getElem?_append_left (by simp [Rp.cells]; omega)]; simp
  | x :: xs, j + 1, i, h, hi => by
    rw [List.flatMap_cons, List.getElem?_append_right (by simp [Rp.cells]; omega)]
    have : (j + 1) * 9 + i - x.cells.length = j * 9 + i := by simp [Rp.cells]; omega
    rw [this, flatMap_get xs j i (by simpa using h) hi]; simp

/-- The cells of the replies' row. -/
theorem VoteIn.lCells {w vb v wa la} (h : VoteIn w vb v wa la) {a c} (ha : la = .slice a v.l.length c) : RIn w a v.l := by
  intro j hj
  rcases h.2.2.1.2 with ⟨_, h0⟩ | ⟨g, cap, cur, hv, _⟩
  · omega
  · rw [ha] at hv
    simp only [Value.slice.injEq] at hv
    have c := fun i (hi : i < 9) u (hu : (v.l[j].cells)[i]? = some u) => h.2.2.1.cells (g := g) (by rw [ha, hv.1]; rfl) (j * 9 + i) u (by rw [flatMap_get _ _ _ hj hi]; exact hu)
    have hadd : ∀ k, (⟨g, 0, none⟩ : Addr).add k = ⟨g, 0 + k, none⟩ := by intro k; unfold Addr.add; split <;> simp_all
    simp only [hadd] at c
    exact ⟨g, 0, hv.1, c 0 (by omega) _ rfl, c 1 (by omega) _ rfl, c 2 (by omega) _ rfl, c 3 (by omega) _ rfl, c 4 (by omega) _ rfl, c 5 (by omega) _ rfl, c 6 (by omega) _ rfl, c 7 (by omega) _ rfl, c 8 (by omega) _ rfl⟩

/-- The vote's own cells. -/
theorem own_of_block {w : World} {vb : Nat} {v : Vt} {wa la : Value} (h1 : w.heap[vb]? = some (.cells (vcells v wa la) 63)) :
    (w.cell? ⟨vb, 0, none⟩ = some (.int .u32 v.c) ∧ w.cell? ⟨vb, 1, none⟩ = some (.int .u32 v.s) ∧ w.cell? ⟨vb, 2, none⟩ = some (.int .u16 v.e) ∧ w.cell? ⟨vb, 3, none⟩ = some (.int .i64 v.n) ∧ w.cell? ⟨vb, 4, none⟩ = some (.int .i64 v.p) ∧
      w.cell? ⟨vb, 5, none⟩ = some wa ∧ w.cell? ⟨vb, 6, none⟩ = some la ∧ w.cell? ⟨vb, 7, none⟩ = some (.bool v.is)) ∧ (∀ n, w.frozen? ⟨vb, n, none⟩ = false) := by
  refine ⟨⟨?_, ?_, ?_, ?_, ?_, ?_, ?_, ?_⟩, fun n => ?_⟩ <;> simp [World.cell?, World.frozen?, h1]
theorem res_of_block {w : World} {vb : Nat} {v : Vt} {wa la : Value} (h1 : w.heap[vb]? = some (.cells (vcells v wa la) 63)) :
    w.cell? ⟨vb, 8, none⟩ = some (.int .u32 v.res.c) ∧ w.cell? ⟨vb, 9, none⟩ = some (.int .u32 v.res.s) ∧ w.cell? ⟨vb, 10, none⟩ = some (.int .u16 v.res.n) ∧ w.cell? ⟨vb, 11, none⟩ = some (.int .i64 v.res.e) ∧ w.cell? ⟨vb, 12, none⟩ = some (.int .i64 v.res.k) ∧
      w.cell? ⟨vb, 13, none⟩ = some (.int .i64 v.res.i) ∧ w.cell? ⟨vb, 14, none⟩ = some (.float .f64 v.res.f) ∧ w.cell? ⟨vb, 15, none⟩ = some (.string v.res.t) ∧ w.cell? ⟨vb, 16, none⟩ = some (.slice none 0 0) := by
  refine ⟨?_, ?_, ?_, ?_, ?_, ?_, ?_, ?_, ?_⟩ <;> simp [World.cell?, h1]
theorem VoteIn.own {w vb v wa la} (h : VoteIn w vb v wa la) :
    (w.cell? ⟨vb, 0, none⟩ = some (.int .u32 v.c) ∧ w.cell? ⟨vb, 1, none⟩ = some (.int .u32 v.s) ∧ w.cell? ⟨vb, 2, none⟩ = some (.int .u16 v.e) ∧ w.cell? ⟨vb, 3, none⟩ = some (.int .i64 v.n) ∧ w.cell? ⟨vb, 4, none⟩ = some (.int .i64 v.p) ∧
      w.cell? ⟨vb, 5, none⟩ = some wa ∧ w.cell? ⟨vb, 6, none⟩ = some la ∧ w.cell? ⟨vb, 7, none⟩ = some (.bool v.is)) ∧ (∀ n, w.frozen? ⟨vb, n, none⟩ = false) := own_of_block h.1
theorem VFr.at9 {w w' vb wa la wa' la'} (h : VFr w w' vb wa la wa' la') {k : Nat} {r : Rp} (hc : at9 w k r) (hv : k ≠ vb) (h1 : wa.ownBlock ≠ some k) (h2 : la.ownBlock ≠ some k) : Proofs.Ytbncfpbaifnikaa.at9 w' k r := by
  obtain ⟨c0, c1, c2, c3, c4, c5, c6, c7, c8⟩ := hc
  exact ⟨h.cell c0 hv h1 h2, h.cell c1 hv h1 h2, h.cell c2 hv h1 h2, h.cell c3 hv h1 h2, h.cell c4 hv h1 h2, h.cell c5 hv h1 h2, h.cell c6 hv h1 h2, h.cell c7 hv h1 h2, h.cell c8 hv h1 h2⟩

end Go.Proofs.Ytbncfpbaifnikaa
