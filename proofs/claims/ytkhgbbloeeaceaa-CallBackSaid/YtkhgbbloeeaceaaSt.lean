/- Texts behind byte slices; byte slices told as texts. -/
import Derived.Test.YtkhgbbloeeaceaaPx
import Derived.Lib.AppendStr
import Derived.Laws.BytesArg
namespace Go.Proofs.Ytkhgbbloeeaceaa
open Go Go.RowKit
set_option maxRecDepth 16000

/-- A text's bytes. -/
def strI (s : ByteArray) : List Int := s.data.toList.map fun b => (b.toNat : Int)
theorem u8s_strI (s : ByteArray) : u8s (strI s) = Lib.strCells s := by simp [u8s, strI, Lib.strCells]
theorem strI_length (s : ByteArray) : (strI s).length = s.size := by simp [strI]
theorem strI_byte (s : ByteArray) : ∀ c ∈ strI s, 0 ≤ c ∧ c ≤ 255 := by
  intro c hc
  obtain ⟨b, _, rfl⟩ := List.mem_map.1 hc
  have := UInt8.toNat_lt b
  omega
theorem strI_empty {s : ByteArray} (h : s.size = 0) : strI s = [] := List.eq_nil_of_length_eq_zero (by rw [strI_length, h])

theorem Ap.own_ {w w' : World} {base : Nat} {sl sl' : Value} {zs : List Int} (h : Own w' base sl' zs) (g : w.grownBy w' (obk base sl)) (a : ∀ k, sl'.ownBlock = some k → sl.ownBlock = some k ∨ w.heap.size ≤ k) : Ap w w' base sl sl' zs := ⟨.inl h, g, a, fun _ => h⟩
theorem run_append_bs_str (w : World) (base : Nat) (sl : Value) (zs : List Int) (hb : Bs w base sl zs) (s : ByteArray) (hl : zs.length + s.size ≤ 140737488355328) (hbase : base ≤ w.heap.size) (ty : TypeId) :
    ∃ sl' w', (Builtin.append_ #[22, 9] ty #[sl, .string s]).run Try.prog w = .ok sl' w' ∧ Ap w w' base sl sl' (zs ++ strI s) := by
  obtain ⟨i, hi, hz0, hz1, hz2⟩ := info_parts infoB
  have hf := Lib.run_firstCells_string (P := Try.prog) w 1 s
  by_cases hs : s.size = 0
  · have hsc : Lib.strCells s = [] := List.eq_nil_of_length_eq_zero (by rw [Lib.strCells_length, hs])
    have key : ∀ (a : Option Addr) (n c : Nat), n ≤ c → (Builtin.append_ #[22, 9] ty #[.slice a n c, .string s]).run Try.prog w = .ok (.slice a n c) w := by
      intro a n c hnc
      rw [hs, hsc] at hf
      cases a <;> simp [Builtin.append_, run_underlying Try.underlying22, run_underlying Try.underlying9, sizeOf, typeInfo, hi, hz1, Builtin.lenOf, hs, hf, hnc, storeCells]
    rw [strI_empty hs, List.append_nil]
    have hform : ∃ a c, sl = .slice a zs.length c ∧ zs.length ≤ c := by
      rcases hb with ⟨_, ⟨h1, h2⟩ | ⟨g, cap, cur, h1, _, _, h2, _⟩⟩ | ⟨a, h1, _, _⟩
      · exact ⟨none, 0, by rw [h1, h2], by omega⟩
      · exact ⟨_, _, h1, h2⟩
      · exact ⟨_, _, h1, Nat.le_refl _⟩
    obtain ⟨a, c, rfl, hc⟩ := hform
    exact ⟨_, _, key a _ c hc, Ap.refl hb⟩
  · have hgrown : ∀ (a : Addr) (c : Nat), c < zs.length + s.size → (∀ j u, (u8s zs)[j]? = some u → w.cell? (a.add j) = some u) →
        ∃ sl' w', (Builtin.append_ #[22, 9] ty #[.slice (some a) zs.length c, .string s]).run Try.prog w = .ok sl' w' ∧ Ap w w' base (.slice (some a) zs.length c) sl' (zs ++ strI s) := by
      intro a c hc hcells
      have hr := Lib.run_append_grow_string (P := Try.prog) w 22 9 ty 5 i (.int .u8 0) Try.underlying22 Try.underlying9 hi hz0 a zs.length c (u8s zs) (by rw [hz1]; simp) hcells s hc (by omega)
        (by rw [hz2]; exact growslice_fits hc (by omega))
      refine ⟨_, _, hr, Ap.own_ (⟨by simp, .inr ⟨w.heap.size, _, _, by rw [List.length_append, strI_length], hbase, heap_alloc_new w.drew _, ?_, ?_, ?_, ?_⟩⟩) (⟨rfl, rfl, rfl, by simp, fun k hk _ => heap_alloc_old w.drew _ hk⟩) (fun k hk => .inr ?_)⟩
      · rw [List.length_append, strI_length]; exact grownCap_ge w _ _ _
      · exact grownCap_le_maxLen w _ _ _ (by unfold maxLen; omega)
      · have hz : (Value.int IntKind.u8 0).cells.size = 1 := rfl
        have := grownCap_ge w (zs.length + s.size) c 5
        simp only [Array.size_append, List.size_toArray, size_zeroCells, hz, List.length_map, Lib.strCells_length]
        omega
      · simp only [Array.toList_append, List.append_assoc]
        rw [← List.append_assoc]
        rw [show (u8s (zs ++ strI s)) = u8s zs ++ Lib.strCells s by rw [← u8s_strI]; simp [u8s]]
        rw [show (zs ++ strI s).length * 1 = (u8s zs ++ Lib.strCells s).length by simp [strI_length, Lib.strCells_length]]
        exact List.take_left
      · have : w.heap.size = k := by simpa [Value.ownBlock] using hk
        omega
    rcases hb with ⟨hlen, ⟨rfl, h2⟩ | ⟨g, cap, cur, rfl, hbg, hg, hnc, hcm, hcs, htake⟩⟩ | ⟨a, rfl, hbin, _⟩
    · have h0 : zs = [] := List.eq_nil_of_length_eq_zero h2
      subst h0
      have hr := run_append_nil_string (P := Try.prog) w 22 9 ty 5 i (.int .u8 0) Try.underlying22 Try.underlying9 hi hz0 s (by omega) (by simp at hl; omega) (by rw [hz2]; simp at hl; omega)
      have e1 : (s.data.map fun b => Value.int .u8 b.toNat) = (Lib.strCells s).toArray := by
        apply Array.ext'
        simp [Lib.strCells]
      rw [e1] at hr
      refine ⟨_, _, hr, Ap.own_ (⟨by simp, .inr ⟨w.heap.size, _, _, by rw [List.nil_append, strI_length], hbase, heap_alloc_new w.drew _, ?_, ?_, ?_, ?_⟩⟩) (⟨rfl, rfl, rfl, by simp, fun k hk _ => heap_alloc_old w.drew _ hk⟩) (fun k hk => .inr ?_)⟩
      · rw [List.nil_append, strI_length]; exact grownCap_ge w _ _ _
      · exact grownCap_le_maxLen w _ _ _ (by simp at hl; unfold maxLen; omega)
      · have hz : (Value.int IntKind.u8 0).cells.size = 1 := rfl
        have := grownCap_ge w s.size 0 5
        simp only [Array.size_append, List.size_toArray, size_zeroCells, hz, Lib.strCells_length]
        omega
      · simp only [Array.toList_append]
        rw [List.nil_append, u8s_strI]
        rw [show (strI s).length * 1 = (Lib.strCells s).length by simp [strI_length, Lib.strCells_length]]
        exact List.take_left
      · have : w.heap.size = k := by simpa [Value.ownBlock] using hk
        omega
    · by_cases hroom : zs.length + s.size ≤ cap
      · have hcs' : cur.size = cap := by simpa using hcs
        have hr := Lib.run_append_room_string (P := Try.prog) w 22 9 ty 5 i Try.underlying22 Try.underlying9 hi hz1 g zs.length cap cur hg s hroom (by omega)
        refine ⟨_, _, hr, Ap.own_ (⟨by simp, .inr ⟨g, cap, _, by rw [List.length_append, strI_length], hbg, setRow_heap w g cur _ _ _ hg, ?_, hcm, ?_, ?_⟩⟩) (⟨rfl, rfl, rfl, by simp, fun k _ hk => setRow_other w g k _ (fun e => hk (by rw [e]; exact (obk_some.2 ⟨rfl, hbg⟩).symm))⟩) (fun k hk => .inl ?_)⟩
        · rw [List.length_append, strI_length]; exact hroom
        · simp only [List.size_toArray, List.length_append, List.length_take, List.length_drop, Array.length_toList, Lib.strCells_length]
          omega
        · have ht' : cur.toList.take zs.length = u8s zs := by simpa using htake
          rw [ht', show (u8s (zs ++ strI s)) = u8s zs ++ Lib.strCells s by rw [← u8s_strI]; simp [u8s]]
          rw [show (zs ++ strI s).length * 1 = (u8s zs ++ Lib.strCells s).length by simp [strI_length, Lib.strCells_length]]
          exact List.take_left
        · simpa [Value.ownBlock] using hk
      · exact hgrown ⟨g, 0, none⟩ cap (by omega) (World.ownsRow.cells (v := .slice (some ⟨g, 0, none⟩) zs.length cap) (n := zs.length) (base := base) (e := 5) (size := 1) ⟨hlen, .inr ⟨g, cap, cur, rfl, hbg, hg, hnc, hcm, hcs, htake⟩⟩ (g := g) rfl)
    · cases a with
      | some b => exact hgrown b zs.length (by omega) (hbin.cells b rfl)
      | none =>
        have h0 : zs = [] := by
          cases zs with
          | nil => rfl
          | cons z zs => obtain ⟨b, o, e, _⟩ := hbin 0 (by simp); cases e
        subst h0
        have hr := run_append_nil_string (P := Try.prog) w 22 9 ty 5 i (.int .u8 0) Try.underlying22 Try.underlying9 hi hz0 s (by omega) (by simp at hl; omega) (by rw [hz2]; simp at hl; omega)
        have e1 : (s.data.map fun b => Value.int .u8 b.toNat) = (Lib.strCells s).toArray := by
          apply Array.ext'
          simp [Lib.strCells]
        rw [e1] at hr
        refine ⟨_, _, hr, Ap.own_ (⟨by simp, .inr ⟨w.heap.size, _, _, by rw [List.nil_append, strI_length], hbase, heap_alloc_new w.drew _, ?_, ?_, ?_, ?_⟩⟩) (⟨rfl, rfl, rfl, by simp, fun k hk _ => heap_alloc_old w.drew _ hk⟩) (fun k hk => .inr ?_)⟩
        · rw [List.nil_append, strI_length]; exact grownCap_ge w _ _ _
        · exact grownCap_le_maxLen w _ _ _ (by simp at hl; unfold maxLen; omega)
        · have hz : (Value.int IntKind.u8 0).cells.size = 1 := rfl
          have := grownCap_ge w s.size 0 5
          simp only [Array.size_append, List.size_toArray, size_zeroCells, hz, Lib.strCells_length]
          omega
        · simp only [Array.toList_append]
          rw [List.nil_append, u8s_strI]
          rw [show (strI s).length * 1 = (Lib.strCells s).length by simp [strI_length, Lib.strCells_length]]
          exact List.take_left
        · have : w.heap.size = k := by simpa [Value.ownBlock] using hk
          omega

theorem wpList_append_bs_str {ops : Array Oper} {rest : List Oper} {o : Oper} {a : Act} {Q : Exit → Act → World → Prop} (w : World) (hgd : o.guard = none) (s x : Operand)
    (ho : o.op = .call { callee := .builtin .append, args := #[s, x], argTypes := #[22, 9] }) (base : Nat) (sl : Value) (zs : List Int) (hs : a.eval s = sl) (hb : Bs w base sl zs)
    (t : ByteArray) (hx : a.eval x = .string t) (hl : zs.length + t.size ≤ 140737488355328) (hbase : base ≤ w.heap.size)
    (h : ∀ sl' w', Ap w w' base sl sl' (zs ++ strI t) → wpList Try.prog ops Q rest (a.put o.dst sl') w') : wpList Try.prog ops Q (o :: rest) a w := by
  refine wpList_plain hgd fun K hK => ?_
  obtain ⟨sl', w', hr, h2⟩ := run_append_bs_str w base sl zs hb t hl hbase o.type
  unfold Oper.wp execOp
  simp only [ho, resolve, invoke, builtin, Sem.run_bind, Sem.run_pure, Result.andThen_ok, List.map_toArray, List.map_cons, List.map_nil, hs, hx, hr]
  exact hK _ _ (h sl' w' h2)

theorem wp_append_bs_str {o : Oper} {a : Act} {K : Act → World → Prop} {Q : Exit → Act → World → Prop} (w : World) (s x : Operand)
    (ho : o.op = .call { callee := .builtin .append, args := #[s, x], argTypes := #[22, 9] }) (base : Nat) (sl : Value) (zs : List Int) (hs : a.eval s = sl) (hb : Bs w base sl zs)
    (t : ByteArray) (hx : a.eval x = .string t) (hl : zs.length + t.size ≤ 140737488355328) (hbase : base ≤ w.heap.size)
    (h : ∀ sl' w', Ap w w' base sl sl' (zs ++ strI t) → K (a.put o.dst sl') w') : o.wp Try.prog a w K Q := by
  obtain ⟨sl', w', hr, h2⟩ := run_append_bs_str w base sl zs hb t hl hbase o.type
  unfold Oper.wp execOp
  simp only [ho, resolve, invoke, builtin, Sem.run_bind, Sem.run_pure, Result.andThen_ok, List.map_toArray, List.map_cons, List.map_nil, hs, hx, hr]
  exact h sl' w' h2

/-- The form of what may be appended to. -/
theorem Bs.form {w base sl zs} (h : Bs w base sl zs) (hl : zs.length ≤ 9223372036854775807) : ∃ a c, sl = .slice a zs.length c ∧ zs.length ≤ c ∧ c ≤ 9223372036854775807 ∧ (a = none → c = 0) := by
  rcases h with ⟨_, ⟨h1, h2⟩ | ⟨g, cap, cur, h1, _, _, h2, h3, _⟩⟩ | ⟨a, h1, hb, _⟩
  · exact ⟨none, 0, by rw [h1, h2], by omega, by omega, fun _ => rfl⟩
  · exact ⟨_, _, h1, h2, by unfold maxLen at h3; omega, fun e => by cases e⟩
  · refine ⟨_, _, h1, Nat.le_refl _, hl, fun e => ?_⟩
    cases zs with
    | nil => rfl
    | cons z zs => obtain ⟨b, o, e2, _⟩ := hb 0 (by simp); rw [e] at e2; cases e2

def Byt (zs : List Int) : Prop := ∀ z ∈ zs, 0 ≤ z ∧ z ≤ 255
theorem BIn.byt {w a zs} (h : BIn w a zs) : Byt zs := fun z hz => by
  obtain ⟨j, hj, rfl⟩ := List.getElem_of_mem hz
  obtain ⟨_, _, _, _, h0, h1⟩ := h j hj
  exact ⟨h0, h1⟩
/-- Its bytes lie there. -/
theorem Bs.bin {w base a c zs} (h : Bs w base (.slice a zs.length c) zs) (hz : Byt zs) : BIn w a zs := by
  intro j hj
  have hzj := hz zs[j] (List.getElem_mem hj)
  rcases h with h | ⟨a2, e, h, _⟩
  · have h' := h
    rcases h with ⟨_, ⟨h1, h2⟩ | ⟨g, cap, cur, h1, _⟩⟩
    · rw [h2] at hj; omega
    · simp only [Value.slice.injEq] at h1
      obtain ⟨rfl, _, rfl⟩ := h1
      have := World.ownsRow.cells h' (g := g) rfl j (.int .u8 zs[j]) (by simp [u8s, List.getElem?_eq_getElem hj])
      rw [addr_add] at this
      exact ⟨g, 0, rfl, this, hzj⟩
  · simp only [Value.slice.injEq] at e
    obtain ⟨rfl, _, _⟩ := e
    exact h j hj

/-- A byte slice as a text. -/
def txtB (zs : List Int) : ByteArray := strOfNums zs
theorem txtB_size (zs) : (txtB zs).size = zs.length := strOfNums_size zs
theorem strI_txtB {zs : List Int} (h : Byt zs) : strI (txtB zs) = zs := by
  unfold strI txtB
  rw [strOfNums_data, List.map_map]
  conv => rhs; rw [← List.map_id zs]
  apply List.map_congr_left
  intro z hz
  obtain ⟨h0, h1⟩ := h z hz
  simp [UInt8.toNat_ofNat_of_lt (show z.toNat < 2 ^ 8 by omega)]
  omega
theorem txtB_strI (s : ByteArray) : txtB (strI s) = s := by
  unfold strI txtB strOfNums
  rw [List.map_map]
  have : (fun n : Int => UInt8.ofNat n.toNat) ∘ (fun b : UInt8 => (b.toNat : Int)) = id := by
    funext b; simp
  rw [this, List.map_id]
theorem run_convert_bin (w : World) (a : Option Addr) (n c : Nat) (zs : List Int) (h : BIn w a zs) (hn : zs.length = n) :
    (convert 22 9 (.slice a n c)).run Try.prog w = .ok (.string (txtB zs)) w := by
  subst hn
  by_cases h0 : zs = []
  · subst h0
    rw [run_convert_bytes_string w _ _ _ _ _ _ Try.underlying22 Try.underlying5 Try.underlying9]
    cases a with
    | none => simp [Conv.bytesToString]; rfl
    | some a => rw [run_bytesToString w _ _ _ [] (by simp [loadCells, loadCellsFrom])]; rfl
  · have hpos : 0 < zs.length := List.length_pos_iff.2 h0
    obtain ⟨b, o, rfl, _⟩ := h 0 hpos
    exact run_convert_bytes_arg w _ _ Try.underlying22 Try.underlying5 b o _ c zs rfl (fun i hi => by
      obtain ⟨b2, o2, e, hc, _⟩ := h i hi
      simp only [Option.some.injEq, Addr.mk.injEq] at e
      obtain ⟨rfl, rfl, _⟩ := e
      rw [hc, List.getD_eq_getElem?_getD, List.getElem?_eq_getElem hi]; rfl) _ Try.underlying9
end Go.Proofs.Ytkhgbbloeeaceaa
