/- A region that draws its order and holds stores: what its loads read need not be true behind those that all wait for them. -/
import Derived.OrdersHeld
import Derived.RegionTactic
import Derived.Deep.RegionHeld3
namespace Go.Proofs.Ytkhgbbloeeaceaa
open Go
set_option maxRecDepth 16000

section
variable {P : Program} {ops : Array Oper} {Q : Exit → Act → World → Prop} {md : Region.Mode} {T : World → Prop} {lst : Nat}

/-- Whatever comes up; T holds behind each but the last. -/
def wpAnyT (P : Program) (md : Region.Mode) (ops : Array Oper) (Q : Exit → Act → World → Prop) (T : World → Prop) (lst : Nat) : Nat → Array Bool → Act → World → Prop
  | 0, listed, a, w => Region.ready md ops listed = [] ∧ Q .normal a w
  | fuel + 1, listed, a, w => (Region.ready md ops listed = [] → Q .normal a w) ∧
    ∀ i ∈ Region.ready md ops listed, wpOp P ops Q i (fun a' w' => (i = lst ∨ T w') ∧ wpAnyT P md ops Q T lst fuel (listed.setIfInBounds i true) a' w') a w

theorem wpAny_of_T : ∀ (fuel : Nat) (listed : Array Bool) (a : Act) (w : World), wpAnyT P md ops Q T lst fuel listed a w → wpAny P md ops Q fuel listed a w
  | 0, _, _, _, h => h
  | fuel + 1, _, _, _, h => ⟨h.1, fun i hi => wpOp_mono (fun a' w' h' => wpAny_of_T fuel _ a' w' h'.2) (h.2 i hi)⟩

/-- The last waits for number i. -/
def Region.waits (md : Region.Mode) (ops : Array Oper) (lst i : Nat) : Bool := ((ops[lst]?).map fun o => o.after.any fun e => Region.binds md e && e.on == i).getD false

theorem wpAnyT_first {i : Nat} {oi : Oper} {v : Value} (hi : ops[i]? = some oi) (hsel : ∀ (j : Nat) (o : Oper) cs b, ops[j]? = some o → o.op ≠ .select cs b)
    (hQ : ∀ c a w, Q (.panic c) (a.put oi.dst v) w → Q (.panic c) a w) (hwait : Region.waits md ops lst i = true) :
    ∀ (fuel : Nat) (listed : Array Bool) (a : Act) (w : World),
      (∀ j oj, ops[j]? = some oj → j ≠ i → listed.getD j true = false → (∀ e ∈ oj.after, Region.binds md e = true → e.on ≠ i) → oi.apart ops oj = true) →
      i ∈ Region.ready md ops listed → YieldsIf P ops T oi v a → T w →
      wpAnyT P md ops Q T lst fuel (listed.setIfInBounds i true) (a.put oi.dst v) w → wpAnyT P md ops Q T lst (fuel + 1) listed a w := by
  intro fuel
  induction fuel with
  | zero =>
    intro listed a w _ hr hy hS H
    refine ⟨fun h => (by rw [h] at hr; cases hr), fun j hj => ?_⟩
    by_cases hji : j = i
    · subst hji; exact hy.wpOp hi hS ⟨.inr hS, H⟩
    · have := ready_mono hj hji
      rw [H.1] at this
      cases this
  | succ fuel ih =>
    intro listed a w hfree hr hy hS H
    refine ⟨fun h => (by rw [h] at hr; cases hr), fun j hj => ?_⟩
    by_cases hji : j = i
    · subst hji; exact hy.wpOp hi hS ⟨.inr hS, H⟩
    · have h1 := H.2 j (ready_mono hj hji)
      obtain ⟨hjun, oj, hoj, hall⟩ := mem_ready.1 hj
      have hnot : ∀ e ∈ oj.after, Region.binds md e = true → e.on ≠ i := fun e he hb heq => by
        have h1 := hall e he hb
        have h0 := (mem_ready.1 hr).1
        rw [heq] at h1
        rcases Nat.lt_or_ge i listed.size with h' | h'
        · simp [h'] at h0 h1; rw [h0] at h1; cases h1
        · simp [Array.getElem?_eq_none h'] at h1
      have hjl : j ≠ lst := by
        rintro rfl
        unfold Region.waits at hwait
        rw [hoj] at hwait
        simp only [Option.map_some, Option.getD_some, Array.any_eq_true, Bool.and_eq_true, beq_iff_eq] at hwait
        obtain ⟨k, hk, hb, he⟩ := hwait
        exact hnot _ (Array.getElem_mem hk) hb he
      have h2 := wpOp_putIf hoj (hfree j oj hoj hji hjun hnot) (fun cs b => hsel i oi cs b hi) (fun cs b => hsel j oj cs b hoj) hQ hy h1
      have hfree' : ∀ k ok, ops[k]? = some ok → k ≠ i → (listed.setIfInBounds j true).getD k true = false →
          (∀ e ∈ ok.after, Region.binds md e = true → e.on ≠ i) → oi.apart ops ok = true := fun k ok hk hki hun hno => by
        refine hfree k ok hk hki ?_ hno
        by_cases hjk : j = k
        · subst hjk; exact hjun
        · rw [getD_set_ne true hjk] at hun; exact hun
      refine wpOp_mono (fun a' w' h3 => ?_) h2
      have hT : T w' := h3.2.1.resolve_left hjl
      refine ⟨.inr hT, ih (listed.setIfInBounds j true) a' w' hfree' (ready_mono hr (Ne.symm hji)) h3.1 hT ?_⟩
      rw [Array.setIfInBounds_comm _ _ hji]
      exact h3.2.2

/-- Take number i first. -/
theorem wpAnyT_take {i : Nat} {oi : Oper} {v : Value} {fuel : Nat} {listed : Array Bool} {a : Act} {w : World} (hS : T w) (hi : ops[i]? = some oi)
    (hs : Region.noSelect ops = true) (hwait : Region.waits md ops lst i = true) (hf : Region.free md ops listed i = true) (hr : (Region.ready md ops listed).contains i = true)
    (hQ : ∀ c a w, Q (.panic c) (a.put oi.dst v) w → Q (.panic c) a w) (hw : Region.wanted oi (yielded ops a.tmps) = true) (hy : ∀ w, T w → (execOp a.eval oi).run P w = .ok (.value v) w)
    (h : wpAnyT P md ops Q T lst fuel (listed.setIfInBounds i true) (a.put oi.dst v) w) : wpAnyT P md ops Q T lst (fuel + 1) listed a w :=
  wpAnyT_first hi (Region.noSelect_spec hs) hQ hwait fuel listed a w (Region.free_spec hi hf) (by simpa using hr) (.inl ⟨hw, hy⟩) hS h

/-- One comes up, and no other can: it is carried out. -/
theorem wpAnyT_one {i : Nat} {oi : Oper} {fuel : Nat} {listed : Array Bool} {a : Act} {w : World} (hr : Region.ready md ops listed = [i]) (hi : ops[i]? = some oi) (hne : i ≠ lst)
    (h : ∀ K : Act → World → Prop, (∀ a' w', T w' → (T w' → wpAnyT P md ops Q T lst fuel (listed.setIfInBounds i true) a' w') → K a' w') → if Region.wanted oi (yielded ops a.tmps) = true then Oper.wp P oi a w K Q else K (a.put oi.dst undef) w) :
    wpAnyT P md ops Q T lst (fuel + 1) listed a w := by
  refine ⟨(fun h0 => by rw [hr] at h0; cases h0), fun j hj => ?_⟩
  rw [hr, List.mem_singleton] at hj
  subst hj
  exact wpOp_step hi (fun K' hK => h K' (fun a' w' hT hW => hK a' w' ⟨.inr hT, hW hT⟩))

/-- The last. -/
theorem wpAnyT_last {oi : Oper} {fuel : Nat} {listed : Array Bool} {a : Act} {w : World} (hr : Region.ready md ops listed = [lst]) (hi : ops[lst]? = some oi)
    (hr2 : Region.ready md ops (listed.setIfInBounds lst true) = [])
    (h : ∀ K : Act → World → Prop, (∀ a' w', Q .normal a' w' → K a' w') → if Region.wanted oi (yielded ops a.tmps) = true then Oper.wp P oi a w K Q else K (a.put oi.dst undef) w) :
    wpAnyT P md ops Q T lst (fuel + 1) listed a w := by
  refine ⟨(fun h0 => by rw [hr] at h0; cases h0), fun j hj => ?_⟩
  rw [hr, List.mem_singleton] at hj
  subst hj
  refine wpOp_step hi (fun K' hK => h K' (fun a' w' hq => hK a' w' ⟨.inl rfl, ?_⟩))
  cases fuel with
  | zero => exact ⟨hr2, hq⟩
  | succ n => exact ⟨fun _ => hq, by rw [hr2]; simp⟩

theorem head_drop {l : List Oper} {i : Nat} {o : Oper} (h : (l.drop i).head? = some o) : l.toArray[i]? = some o := by
  rw [List.getElem?_toArray, ← List.head?_drop]; exact h

section
variable {l : List Oper}
/-- Take number i first. -/
theorem T_take (i : Nat) {oi : Oper} {v : Value} {fuel : Nat} {listed : Array Bool} {a : Act} {w : World} (hS : T w) (hi : (l.drop i).head? = some oi)
    (hs : Region.noSelect l.toArray = true) (hwait : Region.waits md l.toArray lst i = true) (hf : Region.free md l.toArray listed i = true) (hr : (Region.ready md l.toArray listed).contains i = true)
    (hQ : ∀ c a w, Q (.panic c) (a.put oi.dst v) w → Q (.panic c) a w) (hw : Region.wanted oi (yielded l.toArray a.tmps) = true) (hy : ∀ w, T w → (execOp a.eval oi).run P w = .ok (.value v) w)
    (h : wpAnyT P md l.toArray Q T lst fuel (listed.setIfInBounds i true) (a.put oi.dst v) w) : wpAnyT P md l.toArray Q T lst (fuel + 1) listed a w :=
  wpAnyT_take hS (head_drop hi) hs hwait hf hr hQ hw hy h
/-- One comes up, and no other can: it is carried out. -/
theorem T_one (i : Nat) {oi : Oper} {fuel : Nat} {listed : Array Bool} {a : Act} {w : World} (hi : (l.drop i).head? = some oi) (hr : Region.ready md l.toArray listed = [i]) (hne : i ≠ lst)
    (h : ∀ K : Act → World → Prop, (∀ a' w', T w' → (T w' → wpAnyT P md l.toArray Q T lst fuel (listed.setIfInBounds i true) a' w') → K a' w') → if Region.wanted oi (yielded l.toArray a.tmps) = true then Oper.wp P oi a w K Q else K (a.put oi.dst undef) w) :
    wpAnyT P md l.toArray Q T lst (fuel + 1) listed a w := wpAnyT_one hr (head_drop hi) hne h
/-- The last. -/
theorem T_last {oi : Oper} {fuel : Nat} {listed : Array Bool} {a : Act} {w : World} (hi : (l.drop lst).head? = some oi) (hr : Region.ready md l.toArray listed = [lst])
    (hr2 : Region.ready md l.toArray (listed.setIfInBounds lst true) = [])
    (h : ∀ K : Act → World → Prop, (∀ a' w', Q .normal a' w' → K a' w') → if Region.wanted oi (yielded l.toArray a.tmps) = true then Oper.wp P oi a w K Q else K (a.put oi.dst undef) w) :
    wpAnyT P md l.toArray Q T lst (fuel + 1) listed a w := wpAnyT_last hr (head_drop hi) hr2 h
end

/-- The beginning. -/
theorem wp_region_T {id : Nat} {a : Act} {w : World} (T : World → Prop) (lst : Nat) (hm : P.follows .mixedOrders = true) (hS : T w.drew)
    (h : T w.drew → wpAnyT P .any ops Q T lst ops.size (Array.replicate ops.size false) a w.drew) : (Code.region id ops true).wp P Q a w :=
  wp_region_any hm (wpAny_of_T _ _ _ _ (h hS))
end
end Go.Proofs.Ytkhgbbloeeaceaa
namespace Go.Proofs.Ytkhgbbloeeaceaa
open Go

section
variable {P : Program} {ops : Array Oper} {Q : Exit → Act → World → Prop} {md : Region.Mode} {T : World → Prop} {lst : Nat}

/-- What waits for number i, through others too. -/
def Region.behind (md : Region.Mode) (ops : Array Oper) (i : Nat) : List Nat :=
  (List.range ops.size).foldl (fun C k => if ((ops[k]?).map fun o => o.after.any fun e => Region.binds md e && (e.on == i || C.contains e.on)).getD false then k :: C else C) []
def Region.shuts (md : Region.Mode) (ops : Array Oper) (i : Nat) (C : List Nat) : Bool := C.all fun k => ((ops[k]?).map fun o => o.after.any fun e => Region.binds md e && (e.on == i || C.contains e.on)).getD false
def Region.waitsC (md : Region.Mode) (ops : Array Oper) (listed : Array Bool) (lst i : Nat) : Bool :=
  (Region.behind md ops i).contains lst && (Region.shuts md ops i (Region.behind md ops i) && (Region.behind md ops i).all fun k => !listed.getD k true)

theorem listed_not {listed : Array Bool} {k : Nat} (h0 : listed.getD k true = false) (h1 : listed.getD k false = true) : False := by
  rcases Nat.lt_or_ge k listed.size with h' | h'
  · simp [h'] at h0 h1; rw [h0] at h1; cases h1
  · simp [Array.getElem?_eq_none h'] at h1

theorem wpAnyT_firstC {i : Nat} {oi : Oper} {v : Value} {C : List Nat} (hi : ops[i]? = some oi) (hsel : ∀ (j : Nat) (o : Oper) cs b, ops[j]? = some o → o.op ≠ .select cs b)
    (hQ : ∀ c a w, Q (.panic c) (a.put oi.dst v) w → Q (.panic c) a w) (hl : lst ∈ C) (hedge : ∀ k ∈ C, ∃ o, ops[k]? = some o ∧ ∃ e ∈ o.after, Region.binds md e = true ∧ (e.on = i ∨ e.on ∈ C)) :
    ∀ (fuel : Nat) (listed : Array Bool) (a : Act) (w : World), (∀ k ∈ C, listed.getD k true = false) →
      (∀ j oj, ops[j]? = some oj → j ≠ i → listed.getD j true = false → (∀ e ∈ oj.after, Region.binds md e = true → e.on ≠ i) → oi.apart ops oj = true) →
      i ∈ Region.ready md ops listed → YieldsIf P ops T oi v a → T w →
      wpAnyT P md ops Q T lst fuel (listed.setIfInBounds i true) (a.put oi.dst v) w → wpAnyT P md ops Q T lst (fuel + 1) listed a w := by
  intro fuel
  induction fuel with
  | zero =>
    intro listed a w _ _ hr hy hS H
    refine ⟨fun h => (by rw [h] at hr; cases hr), fun j hj => ?_⟩
    by_cases hji : j = i
    · subst hji; exact hy.wpOp hi hS ⟨.inr hS, H⟩
    · have := ready_mono hj hji
      rw [H.1] at this
      cases this
  | succ fuel ih =>
    intro listed a w hC hfree hr hy hS H
    refine ⟨fun h => (by rw [h] at hr; cases hr), fun j hj => ?_⟩
    by_cases hji : j = i
    · subst hji; exact hy.wpOp hi hS ⟨.inr hS, H⟩
    · have h1 := H.2 j (ready_mono hj hji)
      obtain ⟨hjun, oj, hoj, hall⟩ := mem_ready.1 hj
      have hnot : ∀ e ∈ oj.after, Region.binds md e = true → e.on ≠ i := fun e he hb heq => by
        have h1 := hall e he hb
        rw [heq] at h1
        exact listed_not (mem_ready.1 hr).1 h1
      have hjC : j ∉ C := fun hin => by
        obtain ⟨o, ho, e, he, hb, hon⟩ := hedge j hin
        obtain rfl : o = oj := Option.some.inj (ho.symm.trans hoj)
        rcases hon with hon | hon
        · exact hnot e he hb hon
        · exact listed_not (hC _ hon) (hall e he hb)
      have hjl : j ≠ lst := by rintro rfl; exact hjC hl
      have h2 := wpOp_putIf hoj (hfree j oj hoj hji hjun hnot) (fun cs b => hsel i oi cs b hi) (fun cs b => hsel j oj cs b hoj) hQ hy h1
      have hfree' : ∀ k ok, ops[k]? = some ok → k ≠ i → (listed.setIfInBounds j true).getD k true = false →
          (∀ e ∈ ok.after, Region.binds md e = true → e.on ≠ i) → oi.apart ops ok = true := fun k ok hk hki hun hno => by
        refine hfree k ok hk hki ?_ hno
        by_cases hjk : j = k
        · subst hjk; exact hjun
        · rw [getD_set_ne true hjk] at hun; exact hun
      refine wpOp_mono (fun a' w' h3 => ?_) h2
      have hT : T w' := h3.2.1.resolve_left hjl
      refine ⟨.inr hT, ih (listed.setIfInBounds j true) a' w' (fun k hk => ?_) hfree' (ready_mono hr (Ne.symm hji)) h3.1 hT ?_⟩
      · rw [getD_set_ne true (by rintro rfl; exact hjC hk)]; exact hC k hk
      · rw [Array.setIfInBounds_comm _ _ hji]
        exact h3.2.2

/-- Take number i first; the last waits for it, through others too. -/
theorem wpAnyT_takeC {i : Nat} {oi : Oper} {v : Value} {fuel : Nat} {listed : Array Bool} {a : Act} {w : World} (hS : T w) (hi : ops[i]? = some oi)
    (hs : Region.noSelect ops = true) (hwait : Region.waitsC md ops listed lst i = true) (hf : Region.free md ops listed i = true) (hr : (Region.ready md ops listed).contains i = true)
    (hQ : ∀ c a w, Q (.panic c) (a.put oi.dst v) w → Q (.panic c) a w) (hw : Region.wanted oi (yielded ops a.tmps) = true) (hy : ∀ w, T w → (execOp a.eval oi).run P w = .ok (.value v) w)
    (h : wpAnyT P md ops Q T lst fuel (listed.setIfInBounds i true) (a.put oi.dst v) w) : wpAnyT P md ops Q T lst (fuel + 1) listed a w := by
  unfold Region.waitsC at hwait
  simp only [Bool.and_eq_true, List.all_eq_true, List.contains_iff_mem] at hwait
  obtain ⟨h1, h2, h3⟩ := hwait
  refine wpAnyT_firstC (C := Region.behind md ops i) hi (Region.noSelect_spec hs) hQ h1 (fun k hk => ?_) fuel listed a w (fun k hk => by simpa using h3 k hk) (Region.free_spec hi hf) (by simpa using hr) (.inl ⟨hw, hy⟩) hS h
  unfold Region.shuts at h2
  have := List.all_eq_true.1 h2 k hk
  cases ho : ops[k]? with
  | none => rw [ho] at this; simp at this
  | some o =>
    rw [ho] at this
    simp only [Option.map_some, Option.getD_some, Array.any_eq_true, Bool.and_eq_true, Bool.or_eq_true, beq_iff_eq, List.contains_iff_mem] at this
    obtain ⟨n, hn, hb, hon⟩ := this
    exact ⟨o, rfl, _, Array.getElem_mem hn, hb, hon⟩

section
variable {l : List Oper}
/-- Take number i first; the last waits for it, through others too. -/
theorem T_takeC (i : Nat) {oi : Oper} {v : Value} {fuel : Nat} {listed : Array Bool} {a : Act} {w : World} (hS : T w) (hi : (l.drop i).head? = some oi)
    (hs : Region.noSelect l.toArray = true) (hwait : Region.waitsC md l.toArray listed lst i = true) (hf : Region.free md l.toArray listed i = true) (hr : (Region.ready md l.toArray listed).contains i = true)
    (hQ : ∀ c a w, Q (.panic c) (a.put oi.dst v) w → Q (.panic c) a w) (hw : Region.wanted oi (yielded l.toArray a.tmps) = true) (hy : ∀ w, T w → (execOp a.eval oi).run P w = .ok (.value v) w)
    (h : wpAnyT P md l.toArray Q T lst fuel (listed.setIfInBounds i true) (a.put oi.dst v) w) : wpAnyT P md l.toArray Q T lst (fuel + 1) listed a w :=
  wpAnyT_takeC hS (head_drop hi) hs hwait hf hr hQ hw hy h
end
end
end Go.Proofs.Ytkhgbbloeeaceaa
namespace Go.Proofs.Ytkhgbbloeeaceaa
open Go
section
variable {P : Program} {Q : Exit → Act → World → Prop} {md : Region.Mode} {S : World → Prop} {l : List Oper}
theorem H_take (i : Nat) {oi : Oper} {v : Value} {fuel : Nat} {listed : Array Bool} {a : Act} {w : World} (hS : S w) (hi : (l.drop i).head? = some oi)
    (hs : Region.noSelect l.toArray = true) (hf : Region.free md l.toArray listed i = true) (hr : (Region.ready md l.toArray listed).contains i = true)
    (hQ : ∀ c a w, Q (.panic c) (a.put oi.dst v) w → Q (.panic c) a w) (hw : Region.wanted oi (yielded l.toArray a.tmps) = true) (hy : ∀ w, S w → (execOp a.eval oi).run P w = .ok (.value v) w)
    (h : wpAnyH P md l.toArray Q S fuel (listed.setIfInBounds i true) (a.put oi.dst v) w) : wpAnyH P md l.toArray Q S (fuel + 1) listed a w :=
  wpAnyH_take (head_drop hi) hs hf hr hQ (.inl ⟨hw, hy⟩) hS h
theorem H_skip (i : Nat) {oi : Oper} {fuel : Nat} {listed : Array Bool} {a : Act} {w : World} (hS : S w) (hi : (l.drop i).head? = some oi)
    (hs : Region.noSelect l.toArray = true) (hf : Region.free md l.toArray listed i = true) (hr : (Region.ready md l.toArray listed).contains i = true)
    (hQ : ∀ c a w, Q (.panic c) (a.put oi.dst undef) w → Q (.panic c) a w) (hw : Region.wanted oi (yielded l.toArray a.tmps) = false)
    (h : wpAnyH P md l.toArray Q S fuel (listed.setIfInBounds i true) (a.put oi.dst undef) w) : wpAnyH P md l.toArray Q S (fuel + 1) listed a w :=
  wpAnyH_take (head_drop hi) hs hf hr hQ (.inr ⟨hw, rfl⟩) hS h
theorem H_one (i : Nat) {oi : Oper} {fuel : Nat} {listed : Array Bool} {a : Act} {w : World} (hi : (l.drop i).head? = some oi) (hr : Region.ready md l.toArray listed = [i])
    (h : ∀ K : Act → World → Prop, (∀ a' w', S w' → (S w' → wpAnyH P md l.toArray Q S fuel (listed.setIfInBounds i true) a' w') → K a' w') → if Region.wanted oi (yielded l.toArray a.tmps) = true then Oper.wp P oi a w K Q else K (a.put oi.dst undef) w) :
    wpAnyH P md l.toArray Q S (fuel + 1) listed a w := by
  refine ⟨(fun h0 => by rw [hr] at h0; cases h0), fun j hj => ?_⟩
  rw [hr, List.mem_singleton] at hj
  subst hj
  exact wpOp_step (head_drop hi) (fun K' hK => h K' (fun a' w' hT hW => hK a' w' ⟨hT, hW hT⟩))
/-- The last: S need not hold behind it. -/
theorem H_end (i : Nat) {oi : Oper} {listed : Array Bool} {a : Act} {w : World} (hi : (l.drop i).head? = some oi) (hr : Region.ready md l.toArray listed = [i])
    (hr2 : Region.ready md l.toArray (listed.setIfInBounds i true) = []) (hS : ∀ w, S w)
    (h : ∀ K : Act → World → Prop, (∀ a' w', Q .normal a' w' → K a' w') → if Region.wanted oi (yielded l.toArray a.tmps) = true then Oper.wp P oi a w K Q else K (a.put oi.dst undef) w) (fuel : Nat) :
    wpAnyH P md l.toArray Q S (fuel + 1) listed a w :=
  H_one i hi hr (fun K hK => h K (fun a' w' hq => hK a' w' (hS w') (fun _ => wpAnyH_done hr2 hq fuel)))
end
end Go.Proofs.Ytkhgbbloeeaceaa
namespace Go.Proofs.Ytkhgbbloeeaceaa
open Go

section
variable {P : Program} {ops : Array Oper} {Q : Exit → Act → World → Prop} {md : Region.Mode} {T : World → Prop} {L : List Nat}

/-- Whatever comes up; T holds behind each but those of L. -/
def wpAnyM (P : Program) (md : Region.Mode) (ops : Array Oper) (Q : Exit → Act → World → Prop) (T : World → Prop) (L : List Nat) : Nat → Array Bool → Act → World → Prop
  | 0, listed, a, w => Region.ready md ops listed = [] ∧ Q .normal a w
  | fuel + 1, listed, a, w => (Region.ready md ops listed = [] → Q .normal a w) ∧
    ∀ i ∈ Region.ready md ops listed, wpOp P ops Q i (fun a' w' => (i ∈ L ∨ T w') ∧ wpAnyM P md ops Q T L fuel (listed.setIfInBounds i true) a' w') a w

theorem wpAny_of_M : ∀ (fuel : Nat) (listed : Array Bool) (a : Act) (w : World), wpAnyM P md ops Q T L fuel listed a w → wpAny P md ops Q fuel listed a w
  | 0, _, _, _, h => h
  | fuel + 1, _, _, _, h => ⟨h.1, fun i hi => wpOp_mono (fun a' w' h' => wpAny_of_M fuel _ a' w' h'.2) (h.2 i hi)⟩

def Region.waitsM (md : Region.Mode) (ops : Array Oper) (listed : Array Bool) (L : List Nat) (i : Nat) : Bool :=
  L.all (fun x => (Region.behind md ops i).contains x) && (Region.shuts md ops i (Region.behind md ops i) && (Region.behind md ops i).all fun k => !listed.getD k true)

theorem wpAnyM_firstC {i : Nat} {oi : Oper} {v : Value} {C : List Nat} (hi : ops[i]? = some oi) (hsel : ∀ (j : Nat) (o : Oper) cs b, ops[j]? = some o → o.op ≠ .select cs b)
    (hQ : ∀ c a w, Q (.panic c) (a.put oi.dst v) w → Q (.panic c) a w) (hl : ∀ x ∈ L, x ∈ C) (hedge : ∀ k ∈ C, ∃ o, ops[k]? = some o ∧ ∃ e ∈ o.after, Region.binds md e = true ∧ (e.on = i ∨ e.on ∈ C)) :
    ∀ (fuel : Nat) (listed : Array Bool) (a : Act) (w : World), (∀ k ∈ C, listed.getD k true = false) →
      (∀ j oj, ops[j]? = some oj → j ≠ i → listed.getD j true = false → (∀ e ∈ oj.after, Region.binds md e = true → e.on ≠ i) → oi.apart ops oj = true) →
      i ∈ Region.ready md ops listed → YieldsIf P ops T oi v a → T w →
      wpAnyM P md ops Q T L fuel (listed.setIfInBounds i true) (a.put oi.dst v) w → wpAnyM P md ops Q T L (fuel + 1) listed a w := by
  intro fuel
  induction fuel with
  | zero =>
    intro listed a w _ _ hr hy hS H
    refine ⟨fun h => (by rw [h] at hr; cases hr), fun j hj => ?_⟩
    by_cases hji : j = i
    · subst hji; exact hy.wpOp hi hS ⟨.inr hS, H⟩
    · have := ready_mono hj hji
      rw [H.1] at this
      cases this
  | succ fuel ih =>
    intro listed a w hC hfree hr hy hS H
    refine ⟨fun h => (by rw [h] at hr; cases hr), fun j hj => ?_⟩
    by_cases hji : j = i
    · subst hji; exact hy.wpOp hi hS ⟨.inr hS, H⟩
    · have h1 := H.2 j (ready_mono hj hji)
      obtain ⟨hjun, oj, hoj, hall⟩ := mem_ready.1 hj
      have hnot : ∀ e ∈ oj.after, Region.binds md e = true → e.on ≠ i := fun e he hb heq => by
        have h1 := hall e he hb
        rw [heq] at h1
        exact listed_not (mem_ready.1 hr).1 h1
      have hjC : j ∉ C := fun hin => by
        obtain ⟨o, ho, e, he, hb, hon⟩ := hedge j hin
        obtain rfl : o = oj := Option.some.inj (ho.symm.trans hoj)
        rcases hon with hon | hon
        · exact hnot e he hb hon
        · exact listed_not (hC _ hon) (hall e he hb)
      have hjl : j ∉ L := fun h => hjC (hl j h)
      have h2 := wpOp_putIf hoj (hfree j oj hoj hji hjun hnot) (fun cs b => hsel i oi cs b hi) (fun cs b => hsel j oj cs b hoj) hQ hy h1
      have hfree' : ∀ k ok, ops[k]? = some ok → k ≠ i → (listed.setIfInBounds j true).getD k true = false →
          (∀ e ∈ ok.after, Region.binds md e = true → e.on ≠ i) → oi.apart ops ok = true := fun k ok hk hki hun hno => by
        refine hfree k ok hk hki ?_ hno
        by_cases hjk : j = k
        · subst hjk; exact hjun
        · rw [getD_set_ne true hjk] at hun; exact hun
      refine wpOp_mono (fun a' w' h3 => ?_) h2
      have hT : T w' := h3.2.1.resolve_left hjl
      refine ⟨.inr hT, ih (listed.setIfInBounds j true) a' w' (fun k hk => ?_) hfree' (ready_mono hr (Ne.symm hji)) h3.1 hT ?_⟩
      · rw [getD_set_ne true (by rintro rfl; exact hjC hk)]; exact hC k hk
      · rw [Array.setIfInBounds_comm _ _ hji]
        exact h3.2.2

theorem wpAnyM_takeC {i : Nat} {oi : Oper} {v : Value} {fuel : Nat} {listed : Array Bool} {a : Act} {w : World} (hS : T w) (hi : ops[i]? = some oi)
    (hs : Region.noSelect ops = true) (hwait : Region.waitsM md ops listed L i = true) (hf : Region.free md ops listed i = true) (hr : (Region.ready md ops listed).contains i = true)
    (hQ : ∀ c a w, Q (.panic c) (a.put oi.dst v) w → Q (.panic c) a w) (hw : Region.wanted oi (yielded ops a.tmps) = true) (hy : ∀ w, T w → (execOp a.eval oi).run P w = .ok (.value v) w)
    (h : wpAnyM P md ops Q T L fuel (listed.setIfInBounds i true) (a.put oi.dst v) w) : wpAnyM P md ops Q T L (fuel + 1) listed a w := by
  unfold Region.waitsM at hwait
  simp only [Bool.and_eq_true, List.all_eq_true, List.contains_iff_mem] at hwait
  obtain ⟨h1, h2, h3⟩ := hwait
  refine wpAnyM_firstC (C := Region.behind md ops i) hi (Region.noSelect_spec hs) hQ h1 (fun k hk => ?_) fuel listed a w (fun k hk => by simpa using h3 k hk) (Region.free_spec hi hf) (by simpa using hr) (.inl ⟨hw, hy⟩) hS h
  unfold Region.shuts at h2
  have := List.all_eq_true.1 h2 k hk
  cases ho : ops[k]? with
  | none => rw [ho] at this; simp at this
  | some o =>
    rw [ho] at this
    simp only [Option.map_some, Option.getD_some, Array.any_eq_true, Bool.and_eq_true, Bool.or_eq_true, beq_iff_eq, List.contains_iff_mem] at this
    obtain ⟨n, hn, hb, hon⟩ := this
    exact ⟨o, rfl, _, Array.getElem_mem hn, hb, hon⟩

theorem wpAnyM_pure {i : Nat} {oi : Oper} {v : Value} (hi : ops[i]? = some oi) (hsel : ∀ (j : Nat) (o : Oper) cs b, ops[j]? = some o → o.op ≠ .select cs b)
    (hQ : ∀ c a w, Q (.panic c) (a.put oi.dst v) w → Q (.panic c) a w) (hl : i ∈ L) :
    ∀ (fuel : Nat) (listed : Array Bool) (a : Act) (w : World),
      (∀ j oj, ops[j]? = some oj → j ≠ i → listed.getD j true = false → (∀ e ∈ oj.after, Region.binds md e = true → e.on ≠ i) → oi.apart ops oj = true) →
      i ∈ Region.ready md ops listed → YieldsIf P ops (fun _ => True) oi v a →
      wpAnyM P md ops Q T L fuel (listed.setIfInBounds i true) (a.put oi.dst v) w → wpAnyM P md ops Q T L (fuel + 1) listed a w := by
  intro fuel
  induction fuel with
  | zero =>
    intro listed a w _ hr hy H
    refine ⟨fun h => (by rw [h] at hr; cases hr), fun j hj => ?_⟩
    by_cases hji : j = i
    · subst hji; exact hy.wpOp hi trivial ⟨.inl hl, H⟩
    · have := ready_mono hj hji
      rw [H.1] at this
      cases this
  | succ fuel ih =>
    intro listed a w hfree hr hy H
    refine ⟨fun h => (by rw [h] at hr; cases hr), fun j hj => ?_⟩
    by_cases hji : j = i
    · subst hji; exact hy.wpOp hi trivial ⟨.inl hl, H⟩
    · have h1 := H.2 j (ready_mono hj hji)
      obtain ⟨hjun, oj, hoj, hall⟩ := mem_ready.1 hj
      have hnot : ∀ e ∈ oj.after, Region.binds md e = true → e.on ≠ i := fun e he hb heq => by
        have h1 := hall e he hb
        rw [heq] at h1
        exact listed_not (mem_ready.1 hr).1 h1
      have h2 := wpOp_putIf hoj (hfree j oj hoj hji hjun hnot) (fun cs b => hsel i oi cs b hi) (fun cs b => hsel j oj cs b hoj) hQ hy h1
      have hfree' : ∀ k ok, ops[k]? = some ok → k ≠ i → (listed.setIfInBounds j true).getD k true = false →
          (∀ e ∈ ok.after, Region.binds md e = true → e.on ≠ i) → oi.apart ops ok = true := fun k ok hk hki hun hno => by
        refine hfree k ok hk hki ?_ hno
        by_cases hjk : j = k
        · subst hjk; exact hjun
        · rw [getD_set_ne true hjk] at hun; exact hun
      refine wpOp_mono (fun a' w' h3 => ?_) h2
      refine ⟨h3.2.1, ih (listed.setIfInBounds j true) a' w' hfree' (ready_mono hr (Ne.symm hji)) h3.1 ?_⟩
      rw [Array.setIfInBounds_comm _ _ hji]
      exact h3.2.2

section
variable {l : List Oper}
/-- Take number i first: it reads nothing. -/
theorem M_pure (i : Nat) {oi : Oper} {v : Value} {fuel : Nat} {listed : Array Bool} {a : Act} {w : World} (hi : (l.drop i).head? = some oi) (hl : i ∈ L)
    (hs : Region.noSelect l.toArray = true) (hf : Region.free md l.toArray listed i = true) (hr : (Region.ready md l.toArray listed).contains i = true)
    (hQ : ∀ c a w, Q (.panic c) (a.put oi.dst v) w → Q (.panic c) a w) (hw : Region.wanted oi (yielded l.toArray a.tmps) = true) (hy : ∀ w, (execOp a.eval oi).run P w = .ok (.value v) w)
    (h : wpAnyM P md l.toArray Q T L fuel (listed.setIfInBounds i true) (a.put oi.dst v) w) : wpAnyM P md l.toArray Q T L (fuel + 1) listed a w :=
  wpAnyM_pure (head_drop hi) (Region.noSelect_spec hs) hQ hl fuel listed a w (Region.free_spec (head_drop hi) hf) (by simpa using hr) (.inl ⟨hw, fun w _ => hy w⟩) h
/-- Take number i first; all of L wait for it, through others too. -/
theorem M_take (i : Nat) {oi : Oper} {v : Value} {fuel : Nat} {listed : Array Bool} {a : Act} {w : World} (hS : T w) (hi : (l.drop i).head? = some oi)
    (hs : Region.noSelect l.toArray = true) (hwait : Region.waitsM md l.toArray listed L i = true) (hf : Region.free md l.toArray listed i = true) (hr : (Region.ready md l.toArray listed).contains i = true)
    (hQ : ∀ c a w, Q (.panic c) (a.put oi.dst v) w → Q (.panic c) a w) (hw : Region.wanted oi (yielded l.toArray a.tmps) = true) (hy : ∀ w, T w → (execOp a.eval oi).run P w = .ok (.value v) w)
    (h : wpAnyM P md l.toArray Q T L fuel (listed.setIfInBounds i true) (a.put oi.dst v) w) : wpAnyM P md l.toArray Q T L (fuel + 1) listed a w :=
  wpAnyM_takeC hS (head_drop hi) hs hwait hf hr hQ hw hy h
/-- One comes up, and no other can. -/
theorem M_one (i : Nat) {oi : Oper} {fuel : Nat} {listed : Array Bool} {a : Act} {w : World} (hi : (l.drop i).head? = some oi) (hr : Region.ready md l.toArray listed = [i])
    (h : ∀ K : Act → World → Prop, (∀ a' w', (i ∈ L ∨ T w') → wpAnyM P md l.toArray Q T L fuel (listed.setIfInBounds i true) a' w' → K a' w') → if Region.wanted oi (yielded l.toArray a.tmps) = true then Oper.wp P oi a w K Q else K (a.put oi.dst undef) w) :
    wpAnyM P md l.toArray Q T L (fuel + 1) listed a w := by
  refine ⟨(fun h0 => by rw [hr] at h0; cases h0), fun j hj => ?_⟩
  rw [hr, List.mem_singleton] at hj
  subst hj
  exact wpOp_step (head_drop hi) (fun K' hK => h K' (fun a' w' hT hW => hK a' w' ⟨hT, hW⟩))
/-- One of two comes up. -/
theorem M_two (i j : Nat) {oi oj : Oper} {fuel : Nat} {listed : Array Bool} {a : Act} {w : World} (hi : (l.drop i).head? = some oi) (hj : (l.drop j).head? = some oj) (hr : Region.ready md l.toArray listed = [i, j])
    (h1 : ∀ K : Act → World → Prop, (∀ a' w', (i ∈ L ∨ T w') → wpAnyM P md l.toArray Q T L fuel (listed.setIfInBounds i true) a' w' → K a' w') → if Region.wanted oi (yielded l.toArray a.tmps) = true then Oper.wp P oi a w K Q else K (a.put oi.dst undef) w)
    (h2 : ∀ K : Act → World → Prop, (∀ a' w', (j ∈ L ∨ T w') → wpAnyM P md l.toArray Q T L fuel (listed.setIfInBounds j true) a' w' → K a' w') → if Region.wanted oj (yielded l.toArray a.tmps) = true then Oper.wp P oj a w K Q else K (a.put oj.dst undef) w) :
    wpAnyM P md l.toArray Q T L (fuel + 1) listed a w := by
  refine ⟨(fun h0 => by rw [hr] at h0; cases h0), fun q hq => ?_⟩
  rw [hr] at hq
  rcases List.mem_cons.1 hq with rfl | hq
  · exact wpOp_step (head_drop hi) (fun K' hK => h1 K' (fun a' w' hT hW => hK a' w' ⟨hT, hW⟩))
  · rw [List.mem_singleton] at hq
    subst hq
    exact wpOp_step (head_drop hj) (fun K' hK => h2 K' (fun a' w' hT hW => hK a' w' ⟨hT, hW⟩))
/-- Nothing is left. -/
theorem M_done {listed : Array Bool} {a : Act} {w : World} (hr : Region.ready md l.toArray listed = []) (h : Q .normal a w) (fuel : Nat) : wpAnyM P md l.toArray Q T L fuel listed a w := by
  cases fuel with
  | zero => exact ⟨hr, h⟩
  | succ n => exact ⟨fun _ => h, by rw [hr]; simp⟩
end

/-- The beginning. -/
theorem wp_region_M {id : Nat} {a : Act} {w : World} (T : World → Prop) (L : List Nat) (hm : P.follows .mixedOrders = true) (hS : T w.drew)
    (h : T w.drew → wpAnyM P .any ops Q T L ops.size (Array.replicate ops.size false) a w.drew) : (Code.region id ops true).wp P Q a w :=
  wp_region_any hm (wpAny_of_M _ _ _ _ (h hS))
end
end Go.Proofs.Ytkhgbbloeeaceaa
