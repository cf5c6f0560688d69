/- A region that draws its order, step by step by hand: what comes first, what is not wanted, what alone comes up. S holds behind each. -/
import Derived.Test.YtoddajaepnfgnaaR
import Derived.Deep.RegionHeld3
namespace Go.Proofs.Ytoddajaepnfgnaa
open Go
set_option maxRecDepth 16000
section
variable {P : Program} {Q : Exit → Act → World → Prop} {md : Region.Mode} {S : World → Prop} {l : List Oper}
theorem H_take (i : Nat) {oi : Oper} {v : Value} {fuel : Nat} {listed : Array Bool} {a : Act} {w : World} (hS : S w) (hi : (l.drop i).head? = some oi)
    (hs : Region.noSelect l.toArray = true) (hf : Region.free md l.toArray listed i = true) (hr : (Region.ready md l.toArray listed).contains i = true)
    (hQ : ∀ c a w, Q (.panic c) (a.put oi.dst v) w → Q (.panic c) a w) (hw : Region.wanted oi (yielded l.toArray a.tmps) = true) (hy : ∀ w, S w → (execOp a.eval oi).run P w = .ok (.value v) w)
    (h : wpAnyH P md l.toArray Q S fuel (listed.setIfInBounds i true) (a.put oi.dst v) w) : wpAnyH P md l.toArray Q S (fuel + 1) listed a w :=
  wpAnyH_take (head_drop hi) hs hf hr hQ (.inl ⟨hw, hy⟩) hS h
theorem H_skip (i : Nat) {oi : Oper} {fuel : Nat} {listed : Array Bool} {a : Act} {w : World} (hS : S w) (hi : (l.drop i).head? = some oi)
    (hs : Region.noSelect l.toArray = true) (hf : Region.free md l.toArray listed i = true) (hr : (Region.ready md l.toArray listed).contains i = true)
    (hQ : ∀ c a w, Q (.panic c) (a.put oi.dst undef) w → Q (.panic c) a w) (hw : Region.wanted oi (yielded l.toArray a.tmps) = false)
    (h : wpAnyH P md l.toArray Q S fuel (listed.setIfInBounds i true) (a.put oi.dst undef) w) : wpAnyH P md l.toArray Q S (fuel + 1) listed a w :=
  wpAnyH_take (head_drop hi) hs hf hr hQ (.inr ⟨hw, rfl⟩) hS h
theorem H_one (i : Nat) {oi : Oper} {fuel : Nat} {listed : Array Bool} {a : Act} {w : World} (hi : (l.drop i).head? = some oi) (hr : Region.ready md l.toArray listed = [i])
    (h : ∀ K : Act → World → Prop, (∀ a' w', S w' → (S w' → wpAnyH P md l.toArray Q S fuel (listed.setIfInBounds i true) a' w') → K a' w') → if Region.wanted oi (yielded l.toArray a.tmps) = true then Oper.wp P oi a w K Q else K (a.put oi.dst undef) w) :
    wpAnyH P md l.toArray Q S (fuel + 1) listed a w := by
  refine ⟨(fun h0 => by rw [hr] at h0; cases h0), fun j hj => ?_⟩
  rw [hr, List.mem_singleton] at hj
  subst hj
  exact wpOp_step (head_drop hi) (fun K' hK => h K' (fun a' w' hT hW => hK a' w' ⟨hT, hW hT⟩))
/-- The last: S need not hold behind it. -/
theorem H_end (i : Nat) {oi : Oper} {listed : Array Bool} {a : Act} {w : World} (hi : (l.drop i).head? = some oi) (hr : Region.ready md l.toArray listed = [i])
    (hr2 : Region.ready md l.toArray (listed.setIfInBounds i true) = []) (hS : ∀ w, S w)
    (h : ∀ K : Act → World → Prop, (∀ a' w', Q .normal a' w' → K a' w') → if Region.wanted oi (yielded l.toArray a.tmps) = true then Oper.wp P oi a w K Q else K (a.put oi.dst undef) w) (fuel : Nat) :
    wpAnyH P md l.toArray Q S (fuel + 1) listed a w :=
  H_one i hi hr (fun K hK => h K (fun a' w' hq => hK a' w' (hS w') (fun _ => wpAnyH_done hr2 hq fuel)))
end
end Go.Proofs.Ytoddajaepnfgnaa
