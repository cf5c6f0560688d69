/- A region that draws its order: what may be taken first, where the last operation waits for it through others. -/
import Derived.Test.YtoddajaepnfgnaaR
namespace Go.Proofs.Ytoddajaepnfgnaa
open Go
set_option maxRecDepth 16000

section
variable {P : Program} {ops : Array Oper} {Q : Exit → Act → World → Prop} {md : Region.Mode} {T : World → Prop} {lst : Nat}

/-- What waits for number i, through others too. -/
def Region.behind (md : Region.Mode) (ops : Array Oper) (i : Nat) : List Nat :=
  (List.range ops.size).foldl (fun C k => if ((ops[k]?).map fun o => o.after.any fun e => Region.binds md e && (e.on == i || C.contains e.on)).getD false then k :: C else C) []
def Region.shuts (md : Region.Mode) (ops : Array Oper) (i : Nat) (C : List Nat) : Bool := C.all fun k => ((ops[k]?).map fun o => o.after.any fun e => Region.binds md e && (e.on == i || C.contains e.on)).getD false
def Region.waitsC (md : Region.Mode) (ops : Array Oper) (listed : Array Bool) (lst i : Nat) : Bool :=
  (Region.behind md ops i).contains lst && (Region.shuts md ops i (Region.behind md ops i) && (Region.behind md ops i).all fun k => !listed.getD k true)

theorem listed_not {listed : Array Bool} {k : Nat} (h0 : listed.getD k true = false) (h1 : listed.getD k false = true) : False := by
  rcases Nat.lt_or_ge k listed.size with h' | h'
  · simp [h'] at h0 h1; rw [h0] at h1; cases h1
  · simp [Array.getElem?_eq_none h'] at h1

theorem wpAnyT_firstC {i : Nat} {oi : Oper} {v : Value} {C : List Nat} (hi : ops[i]? = some oi) (hsel : ∀ (j : Nat) (o : Oper) cs b, ops[j]? = some o → o.op ≠ .select cs b)
    (hQ : ∀ c a w, Q (.panic c) (a.put oi.dst v) w → Q (.panic c) a w) (hl : lst ∈ C) (hedge : ∀ k ∈ C, ∃ o, ops[k]? = some o ∧ ∃ e ∈ o.after, Region.binds md e = true ∧ (e.on = i ∨ e.on ∈ C)) :
    ∀ (fuel : Nat) (listed : Array Bool) (a : Act) (w : World), (∀ k ∈ C, listed.getD k true = false) →
      (∀ j oj, ops[j]? = some oj → j ≠ i → listed.getD j true = false → (∀ e ∈ oj.after, Region.binds md e = true → e.on ≠ i) → oi.apart ops oj = true) →
      i ∈ Region.ready md ops listed → YieldsIf P ops T oi v a → T w →
      wpAnyT P md ops Q T lst fuel (listed.setIfInBounds i true) (a.put oi.dst v) w → wpAnyT P md ops Q T lst (fuel + 1) listed a w := by
  intro fuel
  induction fuel with
  | zero =>
    intro listed a w _ _ hr hy hS H
    refine ⟨fun h => (by rw [h] at hr; cases hr), fun j hj => ?_⟩
    by_cases hji : j = i
    · subst hji; exact hy.wpOp hi hS ⟨.inr hS, H⟩
    · have := ready_mono hj hji
      rw [H.1] at this
      cases this
  | succ fuel ih =>
    intro listed a w hC hfree hr hy hS H
    refine ⟨fun h => (by rw [h] at hr; cases hr), fun j hj => ?_⟩
    by_cases hji : j = i
    · subst hji; exact hy.wpOp hi hS ⟨.inr hS, H⟩
    · have h1 := H.2 j (ready_mono hj hji)
      obtain ⟨hjun, oj, hoj, hall⟩ := mem_ready.1 hj
      have hnot : ∀ e ∈ oj.after, Region.binds md e = true → e.on ≠ i := fun e he hb heq => by
        have h1 := hall e he hb
        rw [heq] at h1
        exact listed_not (mem_ready.1 hr).1 h1
      have hjC : j ∉ C := fun hin => by
        obtain ⟨o, ho, e, he, hb, hon⟩ := hedge j hin
        obtain rfl : o = oj := Option.some.inj (ho.symm.trans hoj)
        rcases hon with hon | hon
        · exact hnot e he hb hon
        · exact listed_not (hC _ hon) (hall e he hb)
      have hjl : j ≠ lst := by rintro rfl; exact hjC hl
      have h2 := wpOp_putIf hoj (hfree j oj hoj hji hjun hnot) (fun cs b => hsel i oi cs b hi) (fun cs b => hsel j oj cs b hoj) hQ hy h1
      have hfree' : ∀ k ok, ops[k]? = some ok → k ≠ i → (listed.setIfInBounds j true).getD k true = false →
          (∀ e ∈ ok.after, Region.binds md e = true → e.on ≠ i) → oi.apart ops ok = true := fun k ok hk hki hun hno => by
        refine hfree k ok hk hki ?_ hno
        by_cases hjk : j = k
        · subst hjk; exact hjun
        · rw [getD_set_ne true hjk] at hun; exact hun
      refine wpOp_mono (fun a' w' h3 => ?_) h2
      have hT : T w' := h3.2.1.resolve_left hjl
      refine ⟨.inr hT, ih (listed.setIfInBounds j true) a' w' (fun k hk => ?_) hfree' (ready_mono hr (Ne.symm hji)) h3.1 hT ?_⟩
      · rw [getD_set_ne true (by rintro rfl; exact hjC hk)]; exact hC k hk
      · rw [Array.setIfInBounds_comm _ _ hji]
        exact h3.2.2

/-- Take number i first; the last waits for it, through others too. -/
theorem wpAnyT_takeC {i : Nat} {oi : Oper} {v : Value} {fuel : Nat} {listed : Array Bool} {a : Act} {w : World} (hS : T w) (hi : ops[i]? = some oi)
    (hs : Region.noSelect ops = true) (hwait : Region.waitsC md ops listed lst i = true) (hf : Region.free md ops listed i = true) (hr : (Region.ready md ops listed).contains i = true)
    (hQ : ∀ c a w, Q (.panic c) (a.put oi.dst v) w → Q (.panic c) a w) (hw : Region.wanted oi (yielded ops a.tmps) = true) (hy : ∀ w, T w → (execOp a.eval oi).run P w = .ok (.value v) w)
    (h : wpAnyT P md ops Q T lst fuel (listed.setIfInBounds i true) (a.put oi.dst v) w) : wpAnyT P md ops Q T lst (fuel + 1) listed a w := by
  unfold Region.waitsC at hwait
  simp only [Bool.and_eq_true, List.all_eq_true, List.contains_iff_mem] at hwait
  obtain ⟨h1, h2, h3⟩ := hwait
  refine wpAnyT_firstC (C := Region.behind md ops i) hi (Region.noSelect_spec hs) hQ h1 (fun k hk => ?_) fuel listed a w (fun k hk => by simpa using h3 k hk) (Region.free_spec hi hf) (by simpa using hr) (.inl ⟨hw, hy⟩) hS h
  unfold Region.shuts at h2
  have := List.all_eq_true.1 h2 k hk
  cases ho : ops[k]? with
  | none => rw [ho] at this; simp at this
  | some o =>
    rw [ho] at this
    simp only [Option.map_some, Option.getD_some, Array.any_eq_true, Bool.and_eq_true, Bool.or_eq_true, beq_iff_eq, List.contains_iff_mem] at this
    obtain ⟨n, hn, hb, hon⟩ := this
    exact ⟨o, rfl, _, Array.getElem_mem hn, hb, hon⟩

section
variable {l : List Oper}
/-- Take number i first; the last waits for it, through others too. -/
theorem T_takeC (i : Nat) {oi : Oper} {v : Value} {fuel : Nat} {listed : Array Bool} {a : Act} {w : World} (hS : T w) (hi : (l.drop i).head? = some oi)
    (hs : Region.noSelect l.toArray = true) (hwait : Region.waitsC md l.toArray listed lst i = true) (hf : Region.free md l.toArray listed i = true) (hr : (Region.ready md l.toArray listed).contains i = true)
    (hQ : ∀ c a w, Q (.panic c) (a.put oi.dst v) w → Q (.panic c) a w) (hw : Region.wanted oi (yielded l.toArray a.tmps) = true) (hy : ∀ w, T w → (execOp a.eval oi).run P w = .ok (.value v) w)
    (h : wpAnyT P md l.toArray Q T lst fuel (listed.setIfInBounds i true) (a.put oi.dst v) w) : wpAnyT P md l.toArray Q T lst (fuel + 1) listed a w :=
  wpAnyT_takeC hS (head_drop hi) hs hwait hf hr hQ hw hy h
end
end
end Go.Proofs.Ytoddajaepnfgnaa
