/- Arguments opened: a value's reading is a tree that lies in memory. -/
import Derived.Test.YtkhgbbloeeaceaaRows
import Derived.Test.YtkhgbbloeeaceaaV
import Derived.Deep.Slices
import Derived.SizedLaws
import Derived.OpenShut
import Derived.WideKeyArgs
import Derived.Below
namespace Go.Proofs.Ytkhgbbloeeaceaa
set_option maxRecDepth 16000
open Go Go.ChangeShapes Go.WideShapes Go.RowKit

section
variable {H : Type} {enc : TypeId × Value → H} {w : World} {base : Nat} {sp : Nat → Bool} {hd : Bool}

theorem trod_float {P : Program} {fuel : Nat} {t : TypeId} {k : FloatKind} {cs : List Value} {x : DataW H × List MemPlace} (ht : P.underlying t = some (.float k)) (h : DataW.trod enc P w base sp hd fuel t cs = some x) :
    ∃ n, cs = [.float k n] ∧ x = (.lit (.float k n), []) ∧ (Lit.float k n).wf = true := by
  cases fuel with
  | zero => simp [DataW.trod] at h
  | succ n =>
    unfold DataW.trod at h
    rw [ht] at h
    split at h <;> simp_all

theorem weights_all {P : Program} {e : TypeId} : ∀ {l : List (DataW H)} {d : DataW H}, d ∈ l → ∀ n ∈ d.weights P e, n ∈ DataW.weightsAll P e l
  | x :: l, d, hm, n, hn => by
    simp only [DataW.weightsAll, List.mem_append]
    rcases List.mem_cons.1 hm with rfl | hm
    · exact .inl hn
    · exact .inr (weights_all hm n hn)

theorem addr_add (b o i : Nat) : (⟨b, o, none⟩ : Addr).add i = ⟨b, o + i, none⟩ := by unfold Addr.add; split <;> simp_all

theorem build_list {D : Nat → Prop} {b : Nat} (hb : D b) : ∀ (len o : Nat), (∀ i, i < len → ∃ t sl, (w.cell? ⟨b, o + i * 5, none⟩ = some (.int .i64 t.k) ∧ w.cell? ⟨b, o + i * 5 + 1, none⟩ = some (.int .i64 t.i) ∧ w.cell? ⟨b, o + i * 5 + 2, none⟩ = some (.float .f64 t.f) ∧
      w.cell? ⟨b, o + i * 5 + 3, none⟩ = some (.string t.s) ∧ w.cell? ⟨b, o + i * 5 + 4, none⟩ = some sl) ∧ VIn D w t sl) → ∃ l : List V, l.length = len ∧ EIn D w b o l
  | 0, _, _ => ⟨[], rfl, by unfold EIn; trivial⟩
  | len + 1, o, h => by
    obtain ⟨t, sl, ⟨c0, c1, c2, c3, c4⟩, hv⟩ := h 0 (by omega)
    simp only [Nat.zero_mul, Nat.add_zero] at c0 c1 c2 c3 c4
    obtain ⟨l, hl, he⟩ := build_list hb len (o + 5) (fun i hi => by
      obtain ⟨t, sl, hc, hv⟩ := h (i + 1) (by omega)
      rw [show o + (i + 1) * 5 = o + 5 + i * 5 by omega] at hc
      exact ⟨t, sl, hc, hv⟩)
    refine ⟨t :: l, by simp [hl], ?_⟩
    unfold EIn
    exact ⟨⟨hb, sl, c0, c1, c2, c3, c4, hv⟩, he⟩

theorem open_val : ∀ (fuel : Nat) (cs : List Value) (x : DataW H × List MemPlace), DataW.trod enc Try.prog w base sp hd fuel 43 cs = some x → (∀ n ∈ x.1.weights Try.prog 43, n ≤ reachBytes) →
    ∃ (t : V) (sl : Value), cs = [.int .i64 t.k, .int .i64 t.i, .float .f64 t.f, .string t.s, sl] ∧ VIn (fun _ => True) w t sl := by
  intro fuel
  induction fuel using Nat.strongRecOn with
  | _ fuel ih =>
  intro cs x h hw
  obtain ⟨xs, n, rfl, rfl, hlen, hxl, hf⟩ := DataW.trod_struct Try.underlying43 h
  rw [show Try.prog.cellsOf 43 = 5 by kernel_rfl] at hlen
  obtain ⟨x0, x1, x2, x3, x4, rfl⟩ : ∃ x0 x1 x2 x3 x4, xs = [x0, x1, x2, x3, x4] := by
    match xs, hxl with
    | [x0, x1, x2, x3, x4], _ => exact ⟨_, _, _, _, _, rfl⟩
  obtain ⟨c0, c1, c2, c3, c4, rfl⟩ : ∃ c0 c1 c2 c3 c4, cs = [c0, c1, c2, c3, c4] := by
    match cs, hlen with
    | [c0, c1, c2, c3, c4], _ => exact ⟨_, _, _, _, _, rfl⟩
  have h0 : DataW.trod enc Try.prog w base sp hd n 3 (List.take (Try.prog.cellsOf 3) (List.drop 0 [c0, c1, c2, c3, c4])) = _ := hf 0 _ rfl
  have h1 : DataW.trod enc Try.prog w base sp hd n 2 (List.take (Try.prog.cellsOf 2) (List.drop 1 [c0, c1, c2, c3, c4])) = _ := hf 1 _ rfl
  have h2 : DataW.trod enc Try.prog w base sp hd n 41 (List.take (Try.prog.cellsOf 41) (List.drop 2 [c0, c1, c2, c3, c4])) = _ := hf 2 _ rfl
  have h3 : DataW.trod enc Try.prog w base sp hd n 9 (List.take (Try.prog.cellsOf 9) (List.drop 3 [c0, c1, c2, c3, c4])) = _ := hf 3 _ rfl
  have h4 : DataW.trod enc Try.prog w base sp hd n 27 (List.take (Try.prog.cellsOf 27) (List.drop 4 [c0, c1, c2, c3, c4])) = _ := hf 4 _ rfl
  rw [show Try.prog.cellsOf 3 = 1 by kernel_rfl] at h0
  rw [show Try.prog.cellsOf 2 = 1 by kernel_rfl] at h1
  rw [show Try.prog.cellsOf 41 = 1 by kernel_rfl] at h2
  rw [show Try.prog.cellsOf 9 = 1 by kernel_rfl] at h3
  rw [show Try.prog.cellsOf 27 = 1 by kernel_rfl] at h4
  simp only [List.drop_zero, List.drop_succ_cons, List.take_succ_cons, List.take_zero, List.getElem?_cons_zero, List.getElem?_cons_succ] at h0 h1 h2 h3 h4
  obtain ⟨k, e0, rfl, wk⟩ := DataW.trod_int Try.underlying3 h0
  obtain ⟨i, e1, rfl, wi⟩ := DataW.trod_int Try.underlying2 h1
  obtain ⟨f, e2, rfl, wf⟩ := trod_float Try.underlying41 h2
  obtain ⟨s, e3, rfl, _⟩ := DataW.trod_string Try.underlying9 h3
  simp only [List.cons.injEq, and_true] at e0 e1 e2 e3
  subst e0 e1 e2 e3
  simp only [List.map_cons, List.map_nil, DataW.weights, Try.underlying43, DataW.weightsEach, List.nil_append, List.append_nil] at hw
  have hs : s.size ≤ reachBytes := by
    have := hw s.data.toList.length (by simp)
    simpa using this
  have wf' : f < 2 ^ 64 := by simpa [Lit.wf] using wf
  have hw4 : ∀ n ∈ x4.1.weights Try.prog 27, n ≤ reachBytes := fun n hn => hw n (by simp [hn])
  clear h0 h1 h2 h3 hf hw h
  suffices hh : ∃ l : List V, VIn (fun _ => True) w (.mk k i f s l) c4 by
    obtain ⟨l, hl⟩ := hh
    exact ⟨.mk k i f s l, c4, rfl, hl⟩
  rcases DataW.trod_slice Try.underlying27 h4 with ⟨e4, _⟩ | ⟨a, len, cap, elems, rest, m, rfl, e4, rfl, _, hlc, hcm, hel, hat, _, _⟩
  · simp only [List.cons.injEq, and_true] at e4
    subst e4
    exact ⟨[], VIn.of ⟨wk, wi, wf', hs, by decide, none, 0, rfl, by decide, by decide, fun _ => rfl, .inl rfl⟩⟩
  · simp only [List.cons.injEq, and_true] at e4
    subst e4
    simp only [DataW.weights, Try.underlying27] at hw4
    have hsz := hw4 _ (List.mem_cons_self ..)
    rw [show Try.prog.bytesOf 43 = 64 by kernel_rfl, List.length_map] at hsz
    rw [show Try.prog.cellsOf 43 = 5 by kernel_rfl] at hat
    have hlr : len * 64 ≤ reachBytes := by
      have : len * 64 ≤ (elems.length + (rest.map (·.1)).length) * 64 := Nat.mul_le_mul_right _ (by omega)
      omega
    have hcm' : cap ≤ 9223372036854775807 := hcm
    by_cases hz : len = 0
    · subst hz
      exact ⟨[], VIn.of ⟨wk, wi, wf', hs, by decide, some a, cap, rfl, by simp, hcm', (fun e => by cases e), .inl rfl⟩⟩
    · obtain ⟨b, o, spot⟩ := a
      have hone : ∀ j (hj : j < len), ∃ cs', w.cells? base ((⟨b, o, spot⟩ : Addr).add (j * 5)) 5 = some cs' ∧ DataW.trod enc Try.prog w base sp hd m 43 cs' = some (elems[j]'(by omega)) := fun j hj => by
        have := hat j hj
        rw [List.getElem?_eq_getElem (by omega)] at this
        exact Option.bind_eq_some_iff.1 this
      have hspot : spot = none := by
        obtain ⟨cs', hc, _⟩ := hone 0 (by omega)
        obtain ⟨_, hl5, hcell⟩ := World.cells?_some hc
        have := hcell 0 (by omega)
        rw [List.getElem?_eq_getElem (by omega)] at this
        simpa [Addr.add] using World.cell?_spot this
      subst hspot
      obtain ⟨l, hl, he⟩ := build_list (w := w) (D := fun _ => True) (b := b) trivial len o (fun j hj => by
        obtain ⟨cs', hc, ht⟩ := hone j hj
        obtain ⟨t, sl, rfl, hv⟩ := ih m (by omega) cs' _ ht (fun q hq => hw4 q (List.mem_cons_of_mem _ (List.mem_append_left _ (weights_all (List.mem_map_of_mem (List.getElem_mem (by omega))) q hq))))
        obtain ⟨_, _, hcell⟩ := World.cells?_some hc
        rw [addr_add] at hcell
        have g0 := hcell 0 (by omega)
        have g1 := hcell 1 (by omega)
        have g2 := hcell 2 (by omega)
        have g3 := hcell 3 (by omega)
        have g4 := hcell 4 (by omega)
        rw [addr_add] at g0 g1 g2 g3 g4
        exact ⟨t, sl, ⟨g0, g1, g2, g3, g4⟩, hv⟩)
      subst hl
      exact ⟨l, VIn.of ⟨wk, wi, wf', hs, hlr, some ⟨b, o, none⟩, cap, rfl, hlc, hcm', (fun e => by cases e), .inr ⟨b, o, rfl, he⟩⟩⟩

/-- An argument that is a value, opened. -/
theorem open_value {r : Reach} {b0 : Nat} {v : Value} {d : DataW H} {ps : List MemPlace} (hval : Value.okWide Try.prog w r b0 43 v) (h : DataW.Trod enc Try.prog w base sp hd 43 v d ps) (hw : ∀ n ∈ d.weights Try.prog 43, n ≤ reachBytes) :
    ∃ (t : V) (sl : Value), v = .agg #[.int .i64 t.k, .int .i64 t.i, .float .f64 t.f, .string t.s, sl] ∧ VIn (fun _ => True) w t sl := by
  unfold Value.okWide at hval
  rw [Try.underlying43] at hval
  obtain ⟨cs, rfl, _, _⟩ := hval
  obtain ⟨fuel, hf⟩ := h
  obtain ⟨t, sl, e, hv⟩ := open_val fuel _ _ hf hw
  refine ⟨t, sl, ?_, hv⟩
  obtain ⟨l⟩ := cs
  simp only [Value.cells] at e
  rw [e]

theorem open_reply {r : Reach} {b0 : Nat} {v : Value} {d : DataW H} {ps : List MemPlace} (hval : Value.okWide Try.prog w r b0 45 v) (h : DataW.Trod enc Try.prog w base sp hd 45 v d ps) (hw : ∀ n ∈ d.weights Try.prog 45, n ≤ reachBytes) :
    ∃ (c s n e : Int) (t : V) (sl : Value), v = .agg #[.int .u32 c, .int .u32 s, .int .u16 n, .int .i64 e, .int .i64 t.k, .int .i64 t.i, .float .f64 t.f, .string t.s, sl] ∧ VIn (fun _ => True) w t sl := by
  unfold Value.okWide at hval
  rw [Try.underlying45] at hval
  obtain ⟨⟨cs⟩, rfl, _, _⟩ := hval
  obtain ⟨fuel, h⟩ := h
  simp only [Value.cells] at h
  obtain ⟨xs, n, rfl, hx, hlen, hxl, hf⟩ := DataW.trod_struct Try.underlying45 h
  obtain ⟨hd1, _⟩ := Prod.mk.inj hx
  subst hd1
  rw [show Try.prog.cellsOf 45 = 9 by kernel_rfl] at hlen
  obtain ⟨x0, x1, x2, rfl⟩ : ∃ x0 x1 x2, xs = [x0, x1, x2] := by
    match xs, hxl with
    | [x0, x1, x2], _ => exact ⟨_, _, _, rfl⟩
  obtain ⟨c0, c1, c2, c3, c4, c5, c6, c7, c8, rfl⟩ : ∃ c0 c1 c2 c3 c4 c5 c6 c7 c8, cs = [c0, c1, c2, c3, c4, c5, c6, c7, c8] := by
    match cs, hlen with
    | [c0, c1, c2, c3, c4, c5, c6, c7, c8], _ => exact ⟨_, _, _, _, _, _, _, _, _, rfl⟩
  have h0 : DataW.trod enc Try.prog w base sp hd n 26 (List.take (Try.prog.cellsOf 26) (List.drop 0 [c0, c1, c2, c3, c4, c5, c6, c7, c8])) = _ := hf 0 _ rfl
  have h1 : DataW.trod enc Try.prog w base sp hd n 35 (List.take (Try.prog.cellsOf 35) (List.drop 3 [c0, c1, c2, c3, c4, c5, c6, c7, c8])) = _ := hf 1 _ rfl
  have h2 : DataW.trod enc Try.prog w base sp hd n 43 (List.take (Try.prog.cellsOf 43) (List.drop 4 [c0, c1, c2, c3, c4, c5, c6, c7, c8])) = _ := hf 2 _ rfl
  rw [show Try.prog.cellsOf 26 = 3 by kernel_rfl] at h0
  rw [show Try.prog.cellsOf 35 = 1 by kernel_rfl] at h1
  rw [show Try.prog.cellsOf 43 = 5 by kernel_rfl] at h2
  simp only [List.drop_zero, List.drop_succ_cons, List.take_succ_cons, List.take_zero, List.getElem?_cons_zero, List.getElem?_cons_succ] at h0 h1 h2
  simp only [List.map_cons, List.map_nil, DataW.weights, Try.underlying45, DataW.weightsEach, List.append_nil] at hw
  obtain ⟨e, e1, _, _⟩ := DataW.trod_int Try.underlying35 h1
  obtain ⟨t, sl, e2, hv⟩ := open_val n _ _ h2 (fun q hq => hw q (by simp [hq]))
  obtain ⟨ys, m, rfl, _, _, hyl, hg⟩ := DataW.trod_struct Try.underlying26 h0
  obtain ⟨y0, y1, y2, rfl⟩ : ∃ y0 y1 y2, ys = [y0, y1, y2] := by
    match ys, hyl with
    | [y0, y1, y2], _ => exact ⟨_, _, _, rfl⟩
  have g0 : DataW.trod enc Try.prog w base sp hd m 23 (List.take (Try.prog.cellsOf 23) (List.drop 0 [c0, c1, c2])) = _ := hg 0 _ rfl
  have g1 : DataW.trod enc Try.prog w base sp hd m 23 (List.take (Try.prog.cellsOf 23) (List.drop 1 [c0, c1, c2])) = _ := hg 1 _ rfl
  have g2 : DataW.trod enc Try.prog w base sp hd m 24 (List.take (Try.prog.cellsOf 24) (List.drop 2 [c0, c1, c2])) = _ := hg 2 _ rfl
  rw [show Try.prog.cellsOf 23 = 1 by kernel_rfl] at g0 g1
  rw [show Try.prog.cellsOf 24 = 1 by kernel_rfl] at g2
  simp only [List.drop_zero, List.drop_succ_cons, List.take_succ_cons, List.take_zero, List.getElem?_cons_zero, List.getElem?_cons_succ] at g0 g1 g2
  obtain ⟨c, f0, _, _⟩ := DataW.trod_int Try.underlying23 g0
  obtain ⟨s, f1, _, _⟩ := DataW.trod_int Try.underlying23 g1
  obtain ⟨n', f2, _, _⟩ := DataW.trod_int Try.underlying24 g2
  simp only [List.cons.injEq, and_true] at e1 e2 f0 f1 f2
  obtain ⟨rfl, rfl, rfl, rfl, rfl⟩ := e2
  subst e1 f0 f1 f2
  exact ⟨c, s, n', e, t, _, rfl, hv⟩

/-! The law's post out of 'Below': the arguments read as they did. -/
theorem trodAll_carry {W W' : World} {sp' : Nat → Bool} : ∀ {ts : List TypeId} {vs : List Value} {ds : List (DataW H)} {ps : List MemPlace}, (∀ t ∈ ts, Try.prog.readableRec t = true ∧ t < Try.prog.types.size) →
    DataW.TrodAll enc Try.prog W 0 (fun _ => true) true ts vs ds ps → (∀ p ∈ ps, W.sameAt W' p) → (∀ p ∈ ps, sp' p.block = true) → DataW.TrodAll enc Try.prog W' 0 sp' true ts vs ds ps
  | [], vs, ds, ps, _, h, _, _ => by
    obtain ⟨rfl, rfl, rfl⟩ := trodAll_nil h
    exact rfl
  | t :: ts, vs, ds, ps, ht, h, hsame, hs => by
    obtain ⟨v, vs1, d, ds1, a, b, rfl, rfl, rfl, h1, h2⟩ := trodAll_cons h
    obtain ⟨r1, r2⟩ := ht t (by simp)
    exact ⟨a, b, WideElems.Trod_stays (by kernel_rfl) r1 r2 h1 (fun p hp => hsame p (by simp [hp])) (fun p hp => hs p (by simp [hp])),
      trodAll_carry (fun t ht' => ht t (by simp [ht'])) h2 (fun p hp => hsame p (by simp [hp])) (fun p hp => hs p (by simp [hp])), rfl⟩

theorem post_below {f : Func} {s : ChangeSpec} {apart fresh handsOn again : Bool} {W W' : World} {args : Array Value} {ds gs : List (DataW H)} {before : List MemPlace}
    (hW : DataW.Whole enc Try.prog f.params.toList s.vars apart W args.toList ds gs before) (hv : s.vars = [])
    (hs : s.fn H (ds ++ gs) = { results := [.lit (.bool true)], args := ds }) (hres : f.resultTypes = #[4])
    (hts : ∀ t ∈ f.params.toList, Try.prog.readableRec t = true ∧ t < Try.prog.types.size) (hb : Below W.heap.size W W') :
    s.post enc Try.prog f apart fresh handsOn again W args (.bool true) W' := by
  have hold : ∀ p ∈ before, (fun b => decide (b < W.heap.size)) p.block = true := fun p hp => by simpa using hW.lt p hp
  have hlt : ∀ p ∈ before, p.block < W.heap.size := fun p hp => hW.lt p hp
  obtain ⟨p, q, hA, hV, rfl, hz, hn⟩ := id hW
  rw [hv] at hV
  obtain ⟨rfl, rfl⟩ := trodVars_none hV
  have hargs : ∀ sp : Nat → Bool, (∀ x ∈ p ++ [], sp x.block = true) → DataW.TrodAll enc Try.prog W' 0 sp true f.params.toList args.toList ds p := fun sp hsp =>
    trodAll_carry hts hA (fun x hx => hb.same (hlt x (by simpa using hx))) (fun x hx => hsp x (by simpa using hx))
  have hr : ∀ (b : Nat) (sp : Nat → Bool) (hd : Bool), DataW.TrodAll enc Try.prog W' b sp hd f.resultTypes.toList ((Value.bool true).resultList f.resultTypes.size) [.lit (.bool true)] [] := fun b sp hd => by
    rw [hres]
    exact trodAll_cons_mk (shut_bool Try.underlying4 _) trodAll_mk0
  have hvs : ∀ sp, DataW.TrodVars enc Try.prog W' sp s.vars (s.fn H (ds ++ [])).vars [] := fun sp => by rw [hs, hv]; exact rfl
  have ha : ∀ sp : Nat → Bool, (∀ x ∈ p ++ [], sp x.block = true) → DataW.TrodAll enc Try.prog W' 0 sp true f.params.toList args.toList (s.fn H (ds ++ [])).args p := fun sp hsp => by rw [hs]; exact hargs sp hsp
  have hre : ∀ (b : Nat) (sp : Nat → Bool) (hd : Bool), DataW.TrodAll enc Try.prog W' b sp hd f.resultTypes.toList ((Value.bool true).resultList f.resultTypes.size) (s.fn H (ds ++ [])).results [] := fun b sp hd => by rw [hs]; exact hr b sp hd
  refine ⟨ds, [], p ++ [], [], p, [], hW, hre _ _ _, ha _ hold, hvs _, World.keptBut_mono (fun x hx => ⟨hx, .inr (by simpa using hx)⟩) (hb.frame (· ∈ p ++ [])), fun _ => ?_⟩
  · refine ⟨?_, _, _, ([] ++ p) ++ [], ⟨[] ++ p, [], trodAll_append (ha _ (fun _ _ => rfl)) (hre _ _ _), hvs _, rfl, ?_, ?_⟩, ?_⟩
    · intro j t r hj hr
      rw [hres] at hj hr
      match j, hj, hr with
      | 0, hj, hr =>
        obtain rfl : 4 = t := by simpa using hj
        obtain rfl : Value.bool true = r := by simpa [Value.resultList] using hr
        exact okWide_bool_mk Try.underlying4 _
      | j + 1, hj, _ => simp at hj
    · intro b off hp
      have h0 := hz b off (by simpa using hp)
      rw [hb.frozen (p := ⟨b, off, none⟩) (hlt (.cell b off) (by simpa using hp))]
      exact h0
    · intro ha
      simpa using hn ha
    · intro x hx _
      simpa using hx
end
end Go.Proofs.Ytkhgbbloeeaceaa
