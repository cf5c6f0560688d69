/- WireDeep: the walk. -/
import Derived.Test.YtoddajaepnfgnaaLb
import Derived.Lib.AppendZeros
namespace Go.Proofs.Ytoddajaepnfgnaa
open Go Go.RowKit
set_option maxRecDepth 16000
attribute [local go_sem ↓] run_store_float

theorem zeroCells_u8 (m : Nat) : Builtin.zeroCells #[Value.int .u8 0] m = (u8s (List.replicate m 0)).toArray := by
  apply Array.ext
  · simp [Builtin.zeroCells]
  · intro i h1 h2
    simp [Builtin.zeroCells, Nat.mod_one]
/-- An append of zeros to a full slice. -/
theorem run_append_zeros (w : World) (b : Addr) (n : Nat) (zs : List Int) (hlo : zs.length = n) (holds : ∀ j u, (u8s zs)[j]? = some u → w.cell? (b.add j) = some u) (m : Nat) (hm : 0 < m) (hn : n + m ≤ 100000) (ty : TypeId) :
    (Builtin.append_ #[22, 3] ty #[.slice (some b) n n, .int .i64 (m : Int)]).run Try.prog w =
      .ok (.slice (some ⟨w.heap.size, 0, none⟩) (n + m) (grownCap w (n + m) n 5))
        (w.drew.alloc (.cells ((u8s zs).toArray ++ Builtin.zeroCells #[.int .u8 0] m ++ Builtin.zeroCells #[.int .u8 0] (grownCap w (n + m) n 5 - (n + m))) 5)) := by
  obtain ⟨i, hi, hz0, hz1, hz2⟩ := info_parts infoB
  have hne : m ≠ 0 := by omega
  have hw : IntKind.i64.wrap (m : Int) = m := by rw [IntKind.wrap_i64]; omega
  have hneg : ¬ ((m : Int) < 0) := by omega
  have hn1 : ¬ (n + m ≤ n) := by omega
  have h63' : ¬ (9223372036854775807 < ((n : Int) + (m : Int))) := by omega
  have h48' : ¬ (281474976710656 < Builtin.nextslicecap (n + m) n * i.bytes) := by have := growslice_fits (need := n + m) (old := n) (bytes := i.bytes) (by omega) (by rw [hz2]; omega); omega
  have h48i : ¬ (281474976710656 < (m : Int) * (i.bytes : Int)) := by rw [hz2]; omega
  have hns : ¬ (m * i.size = 0) := by rw [hz1]; omega
  have hfo := run_firstCells_some (P := Try.prog) w.drew i.size n b n n (u8s zs) (by simp [u8s, hlo, hz1]) (by simpa using holds)
  simp [Builtin.append_, run_underlying Try.underlying22, run_underlying Try.underlying3, sizeOf, typeInfo, zeroValue, hi, hz0, asInt, asIntOf, hw, hne, hneg, hns, hn1, h63', h48', h48i, Question.forced, hfo, newRow, grownCap, Value.cells]
theorem app_zeros (w : World) (b : Addr) (zs : List Int) (hz : BIn w (some b) zs) (m N n : Nat) (hn : zs.length = n) (hN : n + m = N) (hn : N ≤ 100000) (ty : TypeId) :
    ∃ (b' : Addr) (cap : Nat) (w' : World), (Builtin.append_ #[22, 3] ty #[.slice (some b) n n, .int .i64 (m : Int)]).run Try.prog w = .ok (.slice (some b') N cap) w' ∧
      BIn w' (some b') (zs ++ List.replicate m 0) ∧ (N ≤ cap ∧ cap ≤ 9223372036854775807) ∧ Below w.heap.size w w' := by
  subst hN
  subst n
  rcases Nat.eq_zero_or_pos m with rfl | hm
  · refine ⟨b, zs.length, w, ?_, by simpa using hz, by omega, Below.refl _ _⟩
    obtain ⟨i, hi, hz0, hz1, hz2⟩ := info_parts infoB
    have hw : IntKind.i64.wrap 0 = 0 := by rw [IntKind.wrap_i64]; omega
    simp [Builtin.append_, run_underlying Try.underlying22, run_underlying Try.underlying3, sizeOf, typeInfo, hi, asInt, asIntOf, hw, storeCells]
  refine ⟨_, _, _, run_append_zeros w b zs.length zs rfl (hz.cells b rfl) m hm hn ty, ?_, ⟨grownCap_ge _ _ _ _, ?_⟩, ((Below.refl _ w).drew).alloc (by simp) _⟩
  · intro j hj
    simp only [List.length_append, List.length_replicate] at hj
    have hj2 : j < (zs ++ List.replicate m 0).length := by simpa using hj
    refine ⟨w.heap.size, 0, rfl, ?_, ?_⟩
    · have hb : (w.drew.alloc (.cells ((u8s zs).toArray ++ Builtin.zeroCells #[.int .u8 0] m ++ Builtin.zeroCells #[.int .u8 0] (grownCap w (zs.length + m) zs.length 5 - (zs.length + m))) 5)).heap[w.heap.size]? = _ := block_alloc_at _ (by simp)
      rw [zeroCells_u8, zeroCells_u8] at hb
      rw [zeroCells_u8, zeroCells_u8]
      simp only [World.cell?, hb]
      have e : (u8s zs).toArray ++ (u8s (List.replicate m 0)).toArray = (u8s (zs ++ List.replicate m 0)).toArray := by simp [u8s]
      rw [e]
      simp [Array.getElem?_append, u8s, hj]
      have e2 : (List.map (Value.int .u8) zs ++ List.replicate m (Value.int .u8 0)) = List.map (Value.int .u8) (zs ++ List.replicate m 0) := by simp
      rw [List.getElem_of_eq e2, List.getElem_map]
    · rw [List.getElem_append]
      split
      · rename_i h; obtain ⟨_, _, _, _, h0⟩ := hz j h; exact h0
      · simp
  · have := grownCap_le_maxLen w (zs.length + m) zs.length 5 (by unfold maxLen; omega)
    unfold maxLen at this; omega
theorem wpList_append_zeros {ops : Array Oper} {rest : List Oper} {o : Oper} {a : Act} {Q : Exit → Act → World → Prop} (w : World) (hgd : o.guard = none) (s x : Operand)
    (ho : o.op = .call { callee := .builtin .append, args := #[s, x], argTypes := #[22, 3] }) (b : Addr) (zs : List Int) (m N n : Nat) (hs : a.eval s = .slice (some b) n n) (hx : a.eval x = .int .i64 (m : Int))
    (hz : BIn w (some b) zs) (hn : zs.length = n) (hN : n + m = N) (hM : N ≤ 100000)
    (h : ∀ b' cap w', BIn w' (some b') (zs ++ List.replicate m 0) → (N ≤ cap ∧ cap ≤ 9223372036854775807) → Below w.heap.size w w' → wpList Try.prog ops Q rest (a.put o.dst (.slice (some b') N cap)) w') : wpList Try.prog ops Q (o :: rest) a w := by
  obtain ⟨b', cap, w', hr, h1, h2, h3⟩ := app_zeros w b zs hz m N n hn hN hM o.type
  exact Lib.wpList_append_run w hgd s x _ _ ho _ _ hs hx _ _ hr (h b' cap w' h1 h2 h3)
def deepL : Nat → List Int
  | 0 => []
  | k + 1 => deepL k ++ [4, 1]
theorem deepL_length : ∀ k, (deepL k).length = 2 * k
  | 0 => rfl
  | k + 1 => by rw [deepL, List.length_append, deepL_length k]; simp; omega
theorem deepL_byt : ∀ k, Byt (deepL k)
  | 0 => fun z hz => by cases hz
  | k + 1 => by
    rw [deepL]
    refine (deepL_byt k).append ?_
    intro z hz
    simp at hz
    omega
theorem deep_law : ∀ k : Nat, k ∈ [6, 7, 8, 9, 10] → (vread (rd true 9 (deepL k ++ [0]))).2 = if k ≤ 8 then (((2 * k + 1 : Nat) : Int), (0 : Int)) else (0, 20) := by decide +kernel
theorem items_law : ∀ m : Nat, m < 65 → (vread (rd true 9 ([4, (m : Int)] ++ List.replicate m (0 : Int)))).2 = (((m + 2 : Nat) : Int), (0 : Int)) ∧ (vread (rd true 9 ([4, (m : Int)] ++ List.replicate m (0 : Int)))).1.l.length = m := by decide +kernel
theorem items_no (m : Nat) (h : (64 : Int) < m) : vread (rd true 9 ([4, (m : Int)] ++ List.replicate m (0 : Int))) = (V.nil, 0, 20) := by
  have e : rd true (8 + 1) ([4, (m : Int)] ++ List.replicate m (0 : Int)) = none := by
    rw [rd.eq_def]
    simp [h]
  rw [e]
  rfl
set_option maxHeartbeats 4000000 in
theorem wireDeep_c (n0 : Int) (m : Nat) (hn : 0 ≤ n0 ∧ n0 ≤ 255) (hm : m ≤ 255) (w : World) : Calls Try.prog 7 #[.int .u8 n0, .int .u8 m] w fun e w' => e = .returned (.bool true) ∧ Below w.heap.size w w' := by
  obtain ⟨K, hK0, hK⟩ : ∃ K : Nat, n0 % 5 = (K : Int) - 6 ∧ 6 ≤ K ∧ K ≤ 10 := ⟨(n0 % 5 + 6).toNat, by omega, by omega⟩
  go_enter Try.func7, Try.ntmps7
  go_wp2_with fail
  refine (known3_c _).mono ?_
  rintro e w1 ⟨rfl, hb1⟩
  have HB1 := Lib.hid hb1
  clear hb1
  go_wp2_with fail
  clear hK0
  go_loopw [6, 7] (fun b j wr => ∃ i : Nat, i ≤ K ∧ j = .int .i64 i ∧ Ap w1 wr w.heap.size (.slice none 0 0) b (deepL i)) (fun _ j _ => K - (intOf j).toNat)
  case atStart => exact ⟨0, by omega, rfl, Ap.refl Bs.nil⟩
  case round =>
    obtain ⟨i, hi, rfl, hap⟩ := hrel
    have HA := Lib.hid hap
    have HBA := Lib.hid (show (deepL i).length + 2 ≤ 140737488355328 ∧ w.heap.size ≤ wr.heap.size from ⟨by rw [deepL_length]; omega, Nat.le_trans HB1.out.size hap.grew.size⟩)
    clear hap
    by_cases hlt : i < K
    · go_wp2_with (at_builtin; (refine wpList_append_bs _ rfl _ _ rfl w.heap.size u6 (deepL i) [4, 1] rfl (HA.out.below ((Below.refl _ _).alloc (Nat.le_refl _) _)).bs ⟨wr.heap.size, 0, none⟩ 2 2 rfl rfl (World.news_of_block (heap_alloc_new wr _)) (by decide) HBA.out.1 (by have := HBA.out.2; simp; omega) ?_; intro g cap w2 hap2))
      go_roundw
      case rel => exact ⟨i + 1, by omega, by go_num, (HA.out.below ((Below.refl _ _).alloc (Nat.le_refl _) _)).trans hap2⟩
      case measure => simp [intOf]; omega
    · obtain rfl : i = K := by omega
      go_wp2_with (at_builtin; (refine wpList_append_bs _ rfl _ _ rfl w.heap.size u6 (deepL i) [0] rfl (HA.out.below ((Below.refl _ _).alloc (Nat.le_refl _) _)).bs ⟨wr.heap.size, 0, none⟩ 1 1 rfl rfl (World.news_of_block (heap_alloc_new wr _)) (by decide) (by have := HBA.out.1; omega) (by have := HBA.out.2; simp; omega) ?_; intro g cap w2 hap2))
      have HT := Lib.hid ((HA.out.below ((Below.refl _ _).alloc (Nat.le_refl _) (.cells #[.int .u8 0] 5))).trans hap2)
      obtain ⟨hn6, hl6, hc6, hbin6⟩ := HT.out.bs.at_ (by rw [List.length_append, deepL_length]; simp; omega) ((deepL_byt i).append (by intro z hz; simp at hz; omega))
      have hL : (deepL i).length + 1 = 2 * i + 1 := by rw [deepL_length]
      rw [hL] at hn6 hl6 ⊢
      have HB2 := Lib.hid (HB1.out.trans (apn_below (B := w.heap.size) HB1.out.size HT.out))
      obtain ⟨r, hr⟩ : ∃ r, vread (rd true 9 (deepL i ++ [0])) = r := ⟨_, rfl⟩
      have hd := deep_law i (by simp; omega)
      rw [hr] at hd
      obtain ⟨⟨k1, i1, f1, s1, l1⟩, n1, e1⟩ := r
      simp only at hd
      have HD := Lib.hid hd
      obtain ⟨L, hL2⟩ : ∃ L, 2 * i + 1 = L := ⟨_, rfl⟩
      rw [hL2] at hn6 hl6 ⊢
      have HL2 := Lib.hid hL2
      have hLs : L ≤ 100 := by omega
      refine (Read2_n (N := L) hr hn6.symm ⟨by omega, hl6⟩ hc6 hbin6).mono ?_
      rintro e w3 ⟨sa, sc, rfl, hv3, hb3⟩
      simp only [V.k_mk, V.i_mk, V.f_mk, V.s_mk, V.l_mk] at hv3 ⊢
      have HB3 := Lib.hid (HB2.out.trans (hb3.mono HB2.out.size))
      clear hn6 hl6 hc6 hbin6 hL hd hL2 hv3 hb3 hap2 HT hr
      obtain ⟨N2, hN2⟩ : ∃ N2, 2 + m = N2 := ⟨_, rfl⟩
      have HN2 := Lib.hid hN2
      have HMM := Lib.hid (show (0 : Int) ≤ m ∧ (m : Int) ≤ 255 by omega)
      clear hN2
      go_wp2_with (at_builtin; (refine wpList_append_zeros _ rfl _ _ rfl ⟨w3.heap.size + 1, 0, none⟩ [4, (m : Int)] m N2 2 rfl rfl (BIn.two (block_alloc_at _ (by simp)) (by omega) HMM.out) rfl HN2.out (by have := HN2.out; omega) ?_; intro b7 cap7 w7 hbin7 hcap7 hb7))
      have HB7 := Lib.hid (((HB3.out.alloc HB3.out.size (.cells #[.int .i64 k1, .int .i64 i1, .float .f64 f1, .string s1, .slice sa l1.length sc] 26)).alloc (Nat.le_trans HB3.out.size (by simp)) (.cells #[.int .u8 4, .int .u8 m] 5)).trans (hb7.mono (Nat.le_trans HB3.out.size (by simp; omega))))
      obtain ⟨r, hr⟩ : ∃ r, vread (rd true 9 ([4, (m : Int)] ++ List.replicate m 0)) = r := ⟨_, rfl⟩
      have hI : m < 65 → r.2 = (((m + 2 : Nat) : Int), (0 : Int)) ∧ r.1.l.length = m := fun h => by rw [← hr]; exact items_law m h
      have hJ : (64 : Int) < m → r = (V.nil, 0, 20) := fun h => by rw [← hr]; exact items_no m h
      obtain ⟨⟨k2, i2, f2, s2, l2⟩, n2, e2⟩ := r
      simp only [V.l_mk, Prod.mk.injEq] at hI hJ
      have HI := Lib.hid hI
      have HJ := Lib.hid hJ
      refine (Read2_n (N := N2) hr (by have := HN2.out; simp; omega) ⟨by have := HN2.out; omega, hcap7⟩ (fun e => by cases e) hbin7).mono ?_
      rintro e w8 ⟨sa8, sc8, rfl, hv8, hb8⟩
      simp only [V.k_mk, V.i_mk, V.f_mk, V.s_mk, V.l_mk] at hv8 ⊢
      have HB8 := Lib.hid (HB7.out.trans (hb8.mono HB7.out.size))
      obtain ⟨LL, hLL⟩ : ∃ LL, l2.length = LL := ⟨_, rfl⟩
      rw [hLL]
      have HLL := Lib.hid hLL
      clear hr hI hJ hbin7 hcap7 hb7 hb8 hv8 hLL
      have hd := HD.out
      by_cases h8 : i ≤ 8
      · have hdA : decide ((i : Int) - 6 - 2 ≤ 0) = true := decide_eq_true (by omega)
        rw [if_pos h8, HL2.out] at hd
        obtain ⟨rfl, rfl⟩ : n1 = (L : Int) ∧ e1 = 0 := by simpa using hd
        clear hd
        by_cases h64 : m < 65
        · have hdB : decide ((m : Int) ≤ 64) = true := decide_eq_true (by omega)
          obtain ⟨⟨hn2, rfl⟩, hlm⟩ := HI.out h64
          obtain rfl : n2 = (m : Int) + 2 := by rw [hn2]; simp
          obtain rfl : m = LL := by rw [← HLL.out, hlm]
          clear hn2 hlm
          go_wp2_with fail
          go_ret
          exact ⟨rfl, HB8.out.alloc HB8.out.size _⟩
        · have hdB : decide ((m : Int) ≤ 64) = false := decide_eq_false (by omega)
          obtain ⟨_, rfl, rfl⟩ := HJ.out (by omega)
          go_wp2_with fail
          go_ret
          exact ⟨rfl, HB8.out.alloc HB8.out.size _⟩
      · have hdA : decide ((i : Int) - 6 - 2 ≤ 0) = false := decide_eq_false (by omega)
        rw [if_neg h8] at hd
        obtain ⟨rfl, rfl⟩ : n1 = 0 ∧ e1 = 20 := by simpa using hd
        clear hd
        by_cases h64 : m < 65
        · have hdB : decide ((m : Int) ≤ 64) = true := decide_eq_true (by omega)
          obtain ⟨⟨hn2, rfl⟩, hlm⟩ := HI.out h64
          obtain rfl : n2 = (m : Int) + 2 := by rw [hn2]; simp
          obtain rfl : m = LL := by rw [← HLL.out, hlm]
          clear hn2 hlm
          go_wp2_with fail
          go_ret
          exact ⟨rfl, HB8.out.alloc HB8.out.size _⟩
        · have hdB : decide ((m : Int) ≤ 64) = false := decide_eq_false (by omega)
          obtain ⟨_, rfl, rfl⟩ := HJ.out (by omega)
          go_wp2_with fail
          go_ret
          exact ⟨rfl, HB8.out.alloc HB8.out.size _⟩
end Go.Proofs.Ytoddajaepnfgnaa
