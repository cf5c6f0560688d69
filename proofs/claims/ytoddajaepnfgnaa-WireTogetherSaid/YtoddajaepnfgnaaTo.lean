/- WireTogether: the walk. -/
import Derived.Test.YtoddajaepnfgnaaNu
import Derived.Test.YtoddajaepnfgnaaLi
import Derived.Test.YtoddajaepnfgnaaSm
import Derived.Test.YtoddajaepnfgnaaG
namespace Go.Proofs.Ytoddajaepnfgnaa
open Go Go.RowKit
set_option maxRecDepth 16000
attribute [local go_sem ↓] run_store_float

/-- The values that may be written. -/
def accs (l : List V) : List V := l.filter fun t => decide (t.check = 0)
def accB (l : List V) : List Int := (accs l).flatMap V.bytes
theorem accs_take (l : List V) (m : Nat) (h : m < l.length) : accs (l.take (m + 1)) = accs (l.take m) ++ if l[m].check = 0 then [l[m]] else [] := by
  rw [List.take_succ_eq_append_getElem h]
  unfold accs
  rw [List.filter_append]
  congr 1
  by_cases hc : l[m].check = 0 <;> simp [hc]
theorem accs_check {l : List V} {t : V} (h : t ∈ accs l) : t.check = 0 := by
  unfold accs at h
  simpa using (List.mem_filter.1 h).2
theorem accs_byt (l : List V) : Byt (accB l) := by
  intro z hz
  obtain ⟨t, ht, hz⟩ := List.mem_flatMap.1 hz
  exact V.bytes_byt t (V.check_zero (accs_check ht)).1 z hz
theorem flat_len (k : Nat) : ∀ l : List V, (∀ t ∈ l, t.bytes.length ≤ k) → (l.flatMap V.bytes).length ≤ l.length * k
  | [], _ => by simp
  | t :: ts, h => by
    have h1 := flat_len k ts (fun x hx => h x (List.mem_cons_of_mem _ hx))
    have h2 := h t (List.mem_cons_self ..)
    rw [List.flatMap_cons, List.length_append, List.length_cons, Nat.add_mul]
    omega
theorem accB_len (l : List V) : (accB l).length ≤ l.length * 4096 := by
  refine Nat.le_trans (flat_len 4096 _ fun t ht => ?_) (Nat.mul_le_mul_right _ (List.length_filter_le ..))
  have := V.check_zero (accs_check ht)
  have := V.bytes_length t this.1
  omega
theorem ownBlock_some {a : Option Addr} {n c k : Nat} (h : (Value.slice a n c).ownBlock = some k) : ∃ q, a = some q ∧ q.block = k := by
  cases a with
  | none => cases h
  | some q => exact ⟨q, rfl, Option.some.inj h⟩
theorem Bs.blk {w base a n c zs} (h : Bs w base (.slice a n c) zs) : ∀ p, a = some p → p.block < w.heap.size := by
  intro p hp
  subst hp
  rcases h with ⟨_, ⟨h1, _⟩ | ⟨g, cap, cur, h1, _, hg, _⟩⟩ | ⟨a, h1, _, h2⟩
  · cases h1
  · simp only [Value.slice.injEq, Option.some.injEq] at h1
    obtain ⟨rfl, _⟩ := h1
    exact (Array.getElem?_eq_some_iff.1 hg).1
  · simp only [Value.slice.injEq] at h1
    exact h2 p h1.1.symm
/-- append of one value: all but the list's own row stays. -/
theorem wpList_appendVG {ops : Array Oper} {o : Oper} {a : Act} {Q : Exit → Act → World → Prop} {base : Nat} {w0 w1 : World} {v : Value} {ps : List (V × Value)} {t : V} {sa : Option Addr} {sc : Nat} {rest : List Oper} (hgd : o.guard = none) (s x : Operand) (ho : o.op = .call { callee := .builtin .append, args := #[s, x], argTypes := #[24, 24] })
    (hO : OwnV 26 base w0 v ps) (hb : Below w0.heap.size w0 w1) (hbase : base ≤ w0.heap.size) (hv : VIn (fun b => w0.heap.size ≤ b) w1 t (.slice sa t.l.length sc))
    (hs : a.eval s = v) (hx : a.eval x = .slice (some ⟨w1.heap.size, 0, none⟩) 1 1) (hl : (ps.length + 1) * 64 ≤ 140737488351232)
    (h : ∀ g cap w2, OwnV 26 base w2 (.slice (some ⟨g, 0, none⟩) (ps.length + 1) cap) (ps ++ [(t, .slice sa t.l.length sc)]) → w1.grownBy w2 v.ownBlock → (v.ownBlock = some g ∨ w1.heap.size < g) → g < w2.heap.size → wpList Try.prog ops Q rest (a.put o.dst (.slice (some ⟨g, 0, none⟩) (ps.length + 1) cap)) w2) :
    wpList Try.prog ops Q (o :: rest) a (w1.alloc (.cells #[.int .i64 t.k, .int .i64 t.i, .float .f64 t.f, .string t.s, .slice sa t.l.length sc] 26)) := by
  obtain ⟨i0, hi, hz0, hz1, hz2⟩ := info_parts infoV
  refine wpList_append_lies _ hgd s x 24 ho base 26 i0 _ 5 64 Try.underlying24 hi hz0 hz1 hz2 rfl (by omega) v ps.length (flat ps) hs ((hO.below hb).alloc _).1 ⟨w1.heap.size, 0, none⟩ 1 1
    (flat [(t, .slice sa t.l.length sc)]) hx rfl (World.news_of_block (heap_alloc_new w1 _)) one5 (by omega) (by unfold maxLen; omega) (by omega) (by have := hb.size; simp; omega) (w1.heap.size + 1) (by simp) fun g cap w2 h1 h2 h3 h4 => ?_
  refine h g cap w2 (hO.snoc hbase hb hv rfl h1 h2 h3) ?_ (h3.imp id fun e => by omega) h4
  exact ⟨h2.os, h2.tape, h2.output, Nat.le_trans (by simp) h2.size, fun k hk hne => by rw [h2.block k (by simp; omega) hne]; exact heap_alloc_old w1 _ hk⟩
theorem wireTogether_heavy (a : Option Addr) (c : Nat) (l : List V) (w : World) (hl : l.length ≤ c ∧ c ≤ 9223372036854775807) (he : LIn (fun _ => True) w a l) (h : V.lights l = false) :
    Calls Try.prog 8 #[.slice a l.length c] w fun e w' => e = .returned (.bool true) ∧ Below w.heap.size w w' := by
  have HE0 := Lib.hid he
  clear he
  go_enter Try.func8, Try.ntmps8
  go_wp2_with fail
  refine (known3_c _).mono ?_
  rintro e w1 ⟨rfl, hb1⟩
  have HB1 := Lib.hid hb1
  clear hb1
  go_wp2_with fail
  refine (lights_c a c l _ w1 (by omega) (HE0.out.below HB1.out)).mono ?_
  rintro e w2 ⟨rfl, hb2⟩
  have HB2 := Lib.hid (HB1.out.trans (hb2.mono HB1.out.size))
  clear hb2
  rw [h]
  go_wp2_with fail
  go_ret
  exact ⟨rfl, HB2.out⟩
set_option maxHeartbeats 4000000 in
theorem wireTogether_light (a : Option Addr) (c : Nat) (l : List V) (w : World) (hl : l.length ≤ c ∧ c ≤ 9223372036854775807) (he : LIn (fun _ => True) w a l) (h : V.lights l = true) :
    Calls Try.prog 8 #[.slice a l.length c] w fun e w' => e = .returned (.bool true) ∧ Below w.heap.size w w' := by
  have hl40 : l.length ≤ 40 := by unfold V.lights at h; simp at h; exact h.1
  have HE0 := Lib.hid he
  clear he
  go_enter Try.func8, Try.ntmps8
  go_wp2_with fail
  refine (known3_c _).mono ?_
  rintro e w1 ⟨rfl, hb1⟩
  have HB1 := Lib.hid hb1
  clear hb1
  go_wp2_with fail
  refine (lights_c a c l _ w1 (by omega) (HE0.out.below HB1.out)).mono ?_
  rintro e w2 ⟨rfl, hb2⟩
  have HB2 := Lib.hid (HB1.out.trans (hb2.mono HB1.out.size))
  clear hb2
  rw [h]
  clear h
  go_wp2_with fail
  go_loopw [3, 4, 5] (fun bs v j wr => ∃ (m : Nat) (ps : List (V × Value)) (ba : Option Addr) (bc n : Nat), m ≤ l.length ∧ j = .int .i64 m ∧ bs = .slice ba n bc ∧ n = (accB (l.take m)).length ∧ (n ≤ bc ∧ bc ≤ 9223372036854775807) ∧ (ba = none → bc = 0) ∧ BIn wr ba (accB (l.take m)) ∧ (∀ p, ba = some p → p.block < wr.heap.size ∧ v.ownBlock ≠ some p.block) ∧ ps.map Prod.fst = (accs (l.take m)).map V.clean ∧ OwnV 26 w.heap.size wr v ps ∧ Below w.heap.size w wr) (fun _ _ j _ => l.length - (intOf j).toNat)
  case atStart => exact ⟨0, [], none, 0, 0, by omega, rfl, rfl, rfl, by omega, (fun _ => rfl), (fun j hj => by cases hj), (fun p hp => by cases hp), rfl, OwnV.nil _ _ _, HB2.out⟩
  case round =>
    obtain ⟨m, ps, ba, bc, n, hm, rfl, rfl, hn, hnc, hbn, hbi, hbp, hps, hown, hb⟩ := hrel
    have hzl : (accB (l.take m)).length ≤ 200000 := by
      have h1 := accB_len (l.take m)
      have h2 : (l.take m).length ≤ 40 := by rw [List.length_take]; omega
      omega
    have HN := Lib.hid hn
    have HNC := Lib.hid hnc
    have HBN := Lib.hid (And.intro hbn (fun p hp => (hbp p hp).1))
    have HDJ := Lib.hid (show ∀ p, ba = some p → u4.ownBlock ≠ some p.block from fun p hp => (hbp p hp).2)
    have HBI := Lib.hid hbi
    have HPS := Lib.hid hps
    have HO := Lib.hid hown
    have HB := Lib.hid hb
    have hn2 : n ≤ 200000 := by omega
    clear hn hnc hbn hbi hbp hps hown hzl
    by_cases hlt : m < l.length
    · obtain ⟨b, o, rfl, he1⟩ := HE0.out.resolve_left (fun e => by simp [e] at hlt)
      have HE := Lib.hid (he1.below hb)
      obtain ⟨hD, sa, sc, c0, c1, c2, c3, c4, hv⟩ := HE.out.get hlt
      have hx : l[m] = l[m] := rfl
      generalize hx : l[m] = x at c0 c1 c2 c3 c4 hv
      obtain ⟨xk, xi, xf, xs, xl⟩ := x
      simp only [V.k_mk, V.i_mk, V.f_mk, V.s_mk, V.l_mk] at c0 c1 c2 c3 c4 hv
      have HV := Lib.hid hv
      have HX := Lib.hid hx
      have hsl := fun w => sub_full ba n bc HNC.out.1 w
      have hx2 := hx
      clear hv hx hb
      by_cases hck : (V.mk xk xi xf xs xl).check = 0
      · have HVP := Lib.hid (show vput (accB (l.take m)) (V.mk xk xi xf xs xl) = (accB (l.take m) ++ (V.mk xk xi xf xs xl).bytes, 0) by unfold vput; rw [if_pos hck])
        have HZB := Lib.hid (show Byt (accB (l.take m) ++ (V.mk xk xi xf xs xl).bytes) ∧ (accB (l.take m) ++ (V.mk xk xi xf xs xl).bytes).length ≤ 140737488355328 from ⟨(accs_byt _).append (V.bytes_byt _ (V.check_zero hck).1), by
          have h1 := HN.out
          have h2 := V.bytes_length _ (V.check_zero hck).1
          have h3 := (V.check_zero hck).2.2
          rw [List.length_append]; omega⟩)
        go_wp2_with fail
        refine wp_region_held_drew (S := fun w' => (w'.cell? ⟨b, o + m * 5, none⟩ = some (.int .i64 xk) ∧ w'.cell? ⟨b, o + m * 5 + 1, none⟩ = some (.int .i64 xi) ∧ w'.cell? ⟨b, o + m * 5 + 2, none⟩ = some (.float .f64 xf) ∧ w'.cell? ⟨b, o + m * 5 + 3, none⟩ = some (.string xs) ∧ w'.cell? ⟨b, o + m * 5 + 4, none⟩ = some (.slice sa xl.length sc)) ∧ Below wr.heap.size wr w') (by kernel_rfl) ⟨⟨c0, c1, c2, c3, c4⟩, (Below.refl wr.heap.size wr).drew⟩ (fun hT => ?_)
        refine H_take 0 hT rfl (by kernel_rfl) (by kernel_rfl) (by kernel_rfl) (fun _ _ _ h => h) (by rfl) (by (intro w' hw'; (try dsimp only at hw'); go_simp; try with_reducible rfl)) ?_
        try simp only [Act.put, List.setIfInBounds_toArray, List.set_cons_zero, List.set_cons_succ]
        refine H_take 1 hT rfl (by kernel_rfl) (by kernel_rfl) (by kernel_rfl) (fun _ _ _ h => h) (by rfl) (by (intro w' hw'; (try dsimp only at hw'); go_simp; try with_reducible rfl)) ?_
        try simp only [Act.put, List.setIfInBounds_toArray, List.set_cons_zero, List.set_cons_succ]
        refine H_take 2 hT rfl (by kernel_rfl) (by kernel_rfl) (by kernel_rfl) (fun _ _ _ h => h) (by rfl) (by (intro w' hw'; (try dsimp only at hw'); go_simp; try with_reducible rfl)) ?_
        try simp only [Act.put, List.setIfInBounds_toArray, List.set_cons_zero, List.set_cons_succ]
        refine H_take 3 hT rfl (by kernel_rfl) (by kernel_rfl) (by kernel_rfl) (fun _ _ _ h => h) (by rfl) (by (intro w' hw'; (try dsimp only at hw'); go_simp; try with_reducible rfl)) ?_
        try simp only [Act.put, List.setIfInBounds_toArray, List.set_cons_zero, List.set_cons_succ]
        refine H_take 4 hT rfl (by kernel_rfl) (by kernel_rfl) (by kernel_rfl) (fun _ _ _ h => h) (by rfl) (by (intro w' hw'; (try dsimp only at hw'); go_simp; try with_reducible rfl)) ?_
        try simp only [Act.put, List.setIfInBounds_toArray, List.set_cons_zero, List.set_cons_succ]
        refine H_take 5 hT rfl (by kernel_rfl) (by kernel_rfl) (by kernel_rfl) (fun _ _ _ h => h) (by rfl) (by (intro w' hw'; (try dsimp only at hw'); go_simp; try with_reducible rfl)) ?_
        try simp only [Act.put, List.setIfInBounds_toArray, List.set_cons_zero, List.set_cons_succ]
        refine H_take 6 hT rfl (by kernel_rfl) (by kernel_rfl) (by kernel_rfl) (fun _ _ _ h => h) (by rfl) (by (intro w' hw'; (try dsimp only at hw'); go_simp; try with_reducible rfl)) ?_
        try simp only [Act.put, List.setIfInBounds_toArray, List.set_cons_zero, List.set_cons_succ]
        refine H_take 7 hT rfl (by kernel_rfl) (by kernel_rfl) (by kernel_rfl) (fun _ _ _ h => h) (by rfl) (by (intro w' hw'; (try dsimp only at hw'); go_simp; try with_reducible rfl)) ?_
        try simp only [Act.put, List.setIfInBounds_toArray, List.set_cons_zero, List.set_cons_succ]
        refine H_take 8 hT rfl (by kernel_rfl) (by kernel_rfl) (by kernel_rfl) (fun _ _ _ h => h) (by rfl) (by (intro w' hw'; (try dsimp only at hw'); go_simp; try with_reducible rfl)) ?_
        try simp only [Act.put, List.setIfInBounds_toArray, List.set_cons_zero, List.set_cons_succ]
        refine H_take 9 hT rfl (by kernel_rfl) (by kernel_rfl) (by kernel_rfl) (fun _ _ _ h => h) (by rfl) (by (intro w' hw'; (try dsimp only at hw'); go_simp; try with_reducible rfl)) ?_
        try simp only [Act.put, List.setIfInBounds_toArray, List.set_cons_zero, List.set_cons_succ]
        refine H_one 10 rfl (by kernel_rfl) (fun K hK => ?_)
        rw [if_pos (by rfl)]
        go_simp
        have hP := Put1_c (V.mk xk xi xf xs xl) wr.heap.size (.slice ba n n) (accB (l.take m)) wr.drew (.slice sa xl.length sc) (.inr ⟨ba, by rw [HN.out], HBI.out.below hT.2, fun p hp => Nat.lt_of_lt_of_le (HBN.out.2 p hp) hT.2.size⟩) hT.2.size (by have := HN.out; omega) ((HV.out.keep (fun _ _ _ => rfl) (fun b _ hlt => hlt)).below hT.2)
        rw [HVP.out] at hP
        refine hP.mono ?_
        rintro e w4 ⟨sl4, rfl, hap4⟩
        have hb4 := ap_in HBN.out.2 hap4
        obtain ⟨a4, c4, rfl, hl4, hc4, hbin4⟩ := hap4.bs.binB HZB.out.1 HZB.out.2
        dsimp only at hl4 hbin4 ⊢
        obtain ⟨N4, hN4⟩ : ∃ N4, (accB (l.take m) ++ (V.mk xk xi xf xs xl).bytes).length = N4 := ⟨_, rfl⟩
        rw [hN4] at hl4 ⊢
        have HN4 := Lib.hid hN4
        have HF4 := Lib.hid (And.intro hl4 (And.intro hc4 hbin4))
        have hp4 := hap4.bs.blk
        have hq4 : ∀ p, a4 = some p → (∃ q, ba = some q ∧ q.block = p.block) ∨ wr.heap.size ≤ p.block := fun p hp => by
          rcases hap4.at_ p.block (by rw [hp]; rfl) with e | e
          · exact .inl (ownBlock_some e)
          · exact .inr (Nat.le_trans hT.2.size e)
        have HQ4 := Lib.hid hq4
        refine hK _ _ ⟨⟨keepc hb4 hT.1.1, keepc hb4 hT.1.2.1, keepc hb4 hT.1.2.2.1, keepc hb4 hT.1.2.2.2.1, keepc hb4 hT.1.2.2.2.2⟩, hT.2.trans (hb4.mono hT.2.size)⟩ (fun hT4 => ?_)
        have HP4 := Lib.hid hp4
        clear hK hT hap4 hb4 hP hN4 hl4 hc4 hbin4 hp4 hq4
        try simp only [Act.put, List.setIfInBounds_toArray, List.set_cons_zero, List.set_cons_succ]
        refine H_take 11 hT4 rfl (by kernel_rfl) (by kernel_rfl) (by kernel_rfl) (fun _ _ _ h => h) (by rfl) (by (intro w' hw'; (try dsimp only at hw'); go_simp; try with_reducible rfl)) ?_
        try simp only [Act.put, List.setIfInBounds_toArray, List.set_cons_zero, List.set_cons_succ]
        refine H_take 12 hT4 rfl (by kernel_rfl) (by kernel_rfl) (by kernel_rfl) (fun _ _ _ h => h) (by rfl) (by (intro w' hw'; (try dsimp only at hw'); go_simp; try with_reducible rfl)) ?_
        try simp only [Act.put, List.setIfInBounds_toArray, List.set_cons_zero, List.set_cons_succ]
        refine H_take 13 hT4 rfl (by kernel_rfl) (by kernel_rfl) (by kernel_rfl) (fun _ _ _ h => h) (by rfl) (by (intro w' hw'; (try dsimp only at hw'); go_simp; try with_reducible rfl)) ?_
        try simp only [Act.put, List.setIfInBounds_toArray, List.set_cons_zero, List.set_cons_succ]
        refine H_take 14 hT4 rfl (by kernel_rfl) (by kernel_rfl) (by kernel_rfl) (fun _ _ _ h => h) (by rfl) (by (intro w' hw'; (try dsimp only at hw'); go_simp; try with_reducible rfl)) ?_
        try simp only [Act.put, List.setIfInBounds_toArray, List.set_cons_zero, List.set_cons_succ]
        refine H_take 15 hT4 rfl (by kernel_rfl) (by kernel_rfl) (by kernel_rfl) (fun _ _ _ h => h) (by rfl) (by (intro w' hw'; (try dsimp only at hw'); go_simp; try with_reducible rfl)) ?_
        try simp only [Act.put, List.setIfInBounds_toArray, List.set_cons_zero, List.set_cons_succ]
        refine wpAnyH_done (by kernel_rfl) ?_ _
        obtain ⟨⟨c0, c1, c2, c3, c4'⟩, hb5⟩ := hT4
        have HB5 := Lib.hid hb5
        clear hsl hb5
        go_wp2_with fail
        refine (clean1_c (V.mk xk xi xf xs xl) w4 _ _ (HV.out.below HB5.out)).mono ?_
        rintro e w5 ⟨sl5, rfl, hv5, hb6⟩
        obtain ⟨a5, k5, rfl⟩ := hv5.form
        have HV5 := Lib.hid hv5
        have HB6 := Lib.hid hb6
        have HLE := Lib.hid (show (ps.length + 1) * 64 ≤ 140737488351232 by
          have h1 := congrArg List.length HPS.out
          simp only [List.length_map] at h1
          have h2 : (accs (l.take m)).length ≤ (l.take m).length := List.length_filter_le ..
          rw [List.length_take] at h2
          omega)
        clear hv5 hb6
        go_wp2_with (at_builtin; refine wpList_appendVG rfl _ _ rfl (HO.out.below HB5.out) HB6.out (Nat.le_trans HB.out.size HB5.out.size) HV5.out rfl rfl HLE.out ?_; intro g cap w6 hown6 hg6 hat6 hlt6)
        have hacc : accs (l.take (m + 1)) = accs (l.take m) ++ [V.mk xk xi xf xs xl] := by rw [accs_take l m hlt, HX.out, if_pos hck]
        have haccB : accB (l.take (m + 1)) = accB (l.take m) ++ (V.mk xk xi xf xs xl).bytes := by unfold accB; rw [hacc, List.flatMap_append]; simp
        have hne4 : ∀ p, a4 = some p → u4.ownBlock ≠ some p.block := fun p hp e => by
          have h1 := (HO.out.1.lt p.block e).2
          rcases HQ4.out p hp with ⟨q, hq, e3⟩ | h2
          · exact HDJ.out q hq (by rw [e, e3])
          · omega
        have hsz := HB6.out.size
        refine ⟨⟨m + 1, ps ++ [((V.mk xk xi xf xs xl).clean, .slice a5 _ k5)], a4, c4, N4, by omega, by go_num, rfl, by rw [haccB]; exact HN4.out.symm, HF4.out.1, HF4.out.2.1, ?_, fun p hp => ⟨?_, ?_⟩, ?_, hown6, ?_⟩, by simp [intOf]; omega⟩
        · rw [haccB]
          intro j hj
          obtain ⟨b', o', e', hc', hr'⟩ := (HF4.out.2.2.below HB6.out) j hj
          refine ⟨b', o', e', ?_, hr'⟩
          simp only [World.cell?] at hc' ⊢
          rw [hg6.block b' (by have := HP4.out _ e'; simp at this; omega) (fun e => hne4 _ e' e.symm)]
          exact hc'
        · have := HP4.out p hp
          have := hg6.size
          omega
        · intro e
          have e2 : g = p.block := by simpa [Value.ownBlock] using e
          have := HP4.out p hp
          rcases hat6 with h | h
          · exact hne4 p hp (by rw [h, e2])
          · omega
        · rw [hacc, List.map_append, List.map_append, HPS.out]; rfl
        · have h1 := HB.out.trans (HB5.out.mono HB.out.size)
          have h2 := h1.trans (HB6.out.mono h1.size)
          refine h2.trans ⟨hg6.os, hg6.tape, hg6.output, hg6.size, fun k hk => hg6.block k (Nat.lt_of_lt_of_le hk h2.size) (fun e => ?_)⟩
          have := (HO.out.1.lt k e.symm).1
          omega
      · generalize hE : (V.mk xk xi xf xs xl).check = E at hck
        have HVP := Lib.hid (show vput (accB (l.take m)) (V.mk xk xi xf xs xl) = ([], E) by unfold vput; rw [hE, if_neg hck])
        have HZB := Lib.hid (show Byt [] ∧ ([] : List Int).length ≤ 140737488355328 from ⟨fun z hz => (by cases hz), by simp⟩)
        have hacc : accs (l.take (m + 1)) = accs (l.take m) := by rw [accs_take l m hlt, hx2, hE, if_neg hck]; simp
        have HACC := Lib.hid hacc
        clear hE hacc hx2
        go_wp2_with fail
        refine wp_region_held_drew (S := fun w' => (w'.cell? ⟨b, o + m * 5, none⟩ = some (.int .i64 xk) ∧ w'.cell? ⟨b, o + m * 5 + 1, none⟩ = some (.int .i64 xi) ∧ w'.cell? ⟨b, o + m * 5 + 2, none⟩ = some (.float .f64 xf) ∧ w'.cell? ⟨b, o + m * 5 + 3, none⟩ = some (.string xs) ∧ w'.cell? ⟨b, o + m * 5 + 4, none⟩ = some (.slice sa xl.length sc)) ∧ Below wr.heap.size wr w') (by kernel_rfl) ⟨⟨c0, c1, c2, c3, c4⟩, (Below.refl wr.heap.size wr).drew⟩ (fun hT => ?_)
        refine H_take 0 hT rfl (by kernel_rfl) (by kernel_rfl) (by kernel_rfl) (fun _ _ _ h => h) (by rfl) (by (intro w' hw'; (try dsimp only at hw'); go_simp; try with_reducible rfl)) ?_
        try simp only [Act.put, List.setIfInBounds_toArray, List.set_cons_zero, List.set_cons_succ]
        refine H_take 1 hT rfl (by kernel_rfl) (by kernel_rfl) (by kernel_rfl) (fun _ _ _ h => h) (by rfl) (by (intro w' hw'; (try dsimp only at hw'); go_simp; try with_reducible rfl)) ?_
        try simp only [Act.put, List.setIfInBounds_toArray, List.set_cons_zero, List.set_cons_succ]
        refine H_take 2 hT rfl (by kernel_rfl) (by kernel_rfl) (by kernel_rfl) (fun _ _ _ h => h) (by rfl) (by (intro w' hw'; (try dsimp only at hw'); go_simp; try with_reducible rfl)) ?_
        try simp only [Act.put, List.setIfInBounds_toArray, List.set_cons_zero, List.set_cons_succ]
        refine H_take 3 hT rfl (by kernel_rfl) (by kernel_rfl) (by kernel_rfl) (fun _ _ _ h => h) (by rfl) (by (intro w' hw'; (try dsimp only at hw'); go_simp; try with_reducible rfl)) ?_
        try simp only [Act.put, List.setIfInBounds_toArray, List.set_cons_zero, List.set_cons_succ]
        refine H_take 4 hT rfl (by kernel_rfl) (by kernel_rfl) (by kernel_rfl) (fun _ _ _ h => h) (by rfl) (by (intro w' hw'; (try dsimp only at hw'); go_simp; try with_reducible rfl)) ?_
        try simp only [Act.put, List.setIfInBounds_toArray, List.set_cons_zero, List.set_cons_succ]
        refine H_take 5 hT rfl (by kernel_rfl) (by kernel_rfl) (by kernel_rfl) (fun _ _ _ h => h) (by rfl) (by (intro w' hw'; (try dsimp only at hw'); go_simp; try with_reducible rfl)) ?_
        try simp only [Act.put, List.setIfInBounds_toArray, List.set_cons_zero, List.set_cons_succ]
        refine H_take 6 hT rfl (by kernel_rfl) (by kernel_rfl) (by kernel_rfl) (fun _ _ _ h => h) (by rfl) (by (intro w' hw'; (try dsimp only at hw'); go_simp; try with_reducible rfl)) ?_
        try simp only [Act.put, List.setIfInBounds_toArray, List.set_cons_zero, List.set_cons_succ]
        refine H_take 7 hT rfl (by kernel_rfl) (by kernel_rfl) (by kernel_rfl) (fun _ _ _ h => h) (by rfl) (by (intro w' hw'; (try dsimp only at hw'); go_simp; try with_reducible rfl)) ?_
        try simp only [Act.put, List.setIfInBounds_toArray, List.set_cons_zero, List.set_cons_succ]
        refine H_take 8 hT rfl (by kernel_rfl) (by kernel_rfl) (by kernel_rfl) (fun _ _ _ h => h) (by rfl) (by (intro w' hw'; (try dsimp only at hw'); go_simp; try with_reducible rfl)) ?_
        try simp only [Act.put, List.setIfInBounds_toArray, List.set_cons_zero, List.set_cons_succ]
        refine H_take 9 hT rfl (by kernel_rfl) (by kernel_rfl) (by kernel_rfl) (fun _ _ _ h => h) (by rfl) (by (intro w' hw'; (try dsimp only at hw'); go_simp; try with_reducible rfl)) ?_
        try simp only [Act.put, List.setIfInBounds_toArray, List.set_cons_zero, List.set_cons_succ]
        refine H_one 10 rfl (by kernel_rfl) (fun K hK => ?_)
        rw [if_pos (by rfl)]
        go_simp
        have hP := Put1_c (V.mk xk xi xf xs xl) wr.heap.size (.slice ba n n) (accB (l.take m)) wr.drew (.slice sa xl.length sc) (.inr ⟨ba, by rw [HN.out], HBI.out.below hT.2, fun p hp => Nat.lt_of_lt_of_le (HBN.out.2 p hp) hT.2.size⟩) hT.2.size (by have := HN.out; omega) ((HV.out.keep (fun _ _ _ => rfl) (fun b _ hlt => hlt)).below hT.2)
        rw [HVP.out] at hP
        refine hP.mono ?_
        rintro e w4 ⟨sl4, rfl, hap4⟩
        have hb4 := ap_in HBN.out.2 hap4
        obtain ⟨a4, c4, rfl, hl4, hc4, hbin4⟩ := hap4.bs.binB HZB.out.1 HZB.out.2
        dsimp only at hl4 hbin4 ⊢
        obtain ⟨N4, hN4⟩ : ∃ N4, (([] : List Int)).length = N4 := ⟨_, rfl⟩
        rw [hN4] at hl4 ⊢
        have HN4 := Lib.hid hN4
        have HF4 := Lib.hid (And.intro hl4 (And.intro hc4 hbin4))
        have hp4 := hap4.bs.blk
        have hq4 : ∀ p, a4 = some p → (∃ q, ba = some q ∧ q.block = p.block) ∨ wr.heap.size ≤ p.block := fun p hp => by
          rcases hap4.at_ p.block (by rw [hp]; rfl) with e | e
          · exact .inl (ownBlock_some e)
          · exact .inr (Nat.le_trans hT.2.size e)
        have HQ4 := Lib.hid hq4
        refine hK _ _ ⟨⟨keepc hb4 hT.1.1, keepc hb4 hT.1.2.1, keepc hb4 hT.1.2.2.1, keepc hb4 hT.1.2.2.2.1, keepc hb4 hT.1.2.2.2.2⟩, hT.2.trans (hb4.mono hT.2.size)⟩ (fun hT4 => ?_)
        have HP4 := Lib.hid hp4
        clear hK hT hap4 hb4 hP hN4 hl4 hc4 hbin4 hp4 hq4
        try simp only [Act.put, List.setIfInBounds_toArray, List.set_cons_zero, List.set_cons_succ]
        refine H_take 11 hT4 rfl (by kernel_rfl) (by kernel_rfl) (by kernel_rfl) (fun _ _ _ h => h) (by rfl) (by (intro w' hw'; (try dsimp only at hw'); go_simp; try with_reducible rfl)) ?_
        try simp only [Act.put, List.setIfInBounds_toArray, List.set_cons_zero, List.set_cons_succ]
        refine H_take 12 hT4 rfl (by kernel_rfl) (by kernel_rfl) (by kernel_rfl) (fun _ _ _ h => h) (by rfl) (by (intro w' hw'; (try dsimp only at hw'); go_simp; try with_reducible rfl)) ?_
        try simp only [Act.put, List.setIfInBounds_toArray, List.set_cons_zero, List.set_cons_succ]
        refine H_take 13 hT4 rfl (by kernel_rfl) (by kernel_rfl) (by kernel_rfl) (fun _ _ _ h => h) (by rfl) (by (intro w' hw'; (try dsimp only at hw'); go_simp; try with_reducible rfl)) ?_
        try simp only [Act.put, List.setIfInBounds_toArray, List.set_cons_zero, List.set_cons_succ]
        refine H_take 14 hT4 rfl (by kernel_rfl) (by kernel_rfl) (by kernel_rfl) (fun _ _ _ h => h) (by rfl) (by (intro w' hw'; (try dsimp only at hw'); go_simp; try with_reducible rfl)) ?_
        try simp only [Act.put, List.setIfInBounds_toArray, List.set_cons_zero, List.set_cons_succ]
        refine H_take 15 hT4 rfl (by kernel_rfl) (by kernel_rfl) (by kernel_rfl) (fun _ _ _ h => h) (by rfl) (by (intro w' hw'; (try dsimp only at hw'); go_simp; try with_reducible rfl)) ?_
        try simp only [Act.put, List.setIfInBounds_toArray, List.set_cons_zero, List.set_cons_succ]
        refine wpAnyH_done (by kernel_rfl) ?_ _
        obtain ⟨⟨c0, c1, c2, c3, c4'⟩, hb5⟩ := hT4
        have HB5 := Lib.hid hb5
        clear hsl hb5
        go_wp2_with fail
        have haccB : accB (l.take (m + 1)) = accB (l.take m) := by unfold accB; rw [HACC.out]
        refine ⟨⟨m + 1, ps, ba, bc, n, by omega, by go_num, rfl, by rw [haccB]; exact HN.out, HNC.out, HBN.out.1, by rw [haccB]; exact HBI.out.below HB5.out, fun p hp => ⟨Nat.lt_of_lt_of_le (HBN.out.2 p hp) HB5.out.size, HDJ.out p hp⟩, by rw [HACC.out]; exact HPS.out, HO.out.below HB5.out, HB.out.trans (HB5.out.mono HB.out.size)⟩, by simp [intOf]; omega⟩
    · obtain rfl : m = l.length := by omega
      have hnB := HN.out
      have hbi := HBI.out
      have hps := HPS.out
      rw [List.take_length] at hnB hbi hps
      have HN2 := Lib.hid hnB
      have HBI2 := Lib.hid hbi
      have HPS2 := Lib.hid hps
      have hln : ps.length = (accs l).length := by have := congrArg List.length hps; simpa using this
      have hll : (accs l).length ≤ 40 := Nat.le_trans (List.length_filter_le ..) hl40
      have hOL := HO.out.list (by omega)
      rw [HPS2.out] at hOL
      obtain ⟨_, _, _, _, _, wa, wc, hwe, hwc, hwm, hwn, hwl⟩ := hOL.parts
      subst hwe
      have HWL := Lib.hid (show LIn (fun b => w.heap.size ≤ b) wr wa ((accs l).map V.clean) from hwl)
      have HOK := Lib.hid (show ∀ t ∈ accs l, V.Ok t from fun t ht => by
        have hm := (List.mem_filter.1 ht).1
        obtain ⟨j, hj, rfl⟩ := List.getElem_of_mem hm
        obtain ⟨b, o, rfl, he1⟩ := HE0.out.resolve_left (fun e => by simp [e] at hj)
        obtain ⟨_, _, _, _, _, _, _, _, hv⟩ := he1.get hj
        exact hv.ok)
      clear hnB hbi hps hOL hwl
      simp only [List.length_map] at hwc ⊢
      generalize wr = wq at *
      go_wp2_with fail
      go_loopw [3, 8] (fun bs j wx => ∃ (m : Nat) (ba : Option Addr) (bc n : Nat), m ≤ (accs l).length ∧ j = .int .i64 m ∧ bs = .slice ba n bc ∧ n = (((accs l).drop m).flatMap V.bytes).length ∧ (n ≤ bc ∧ bc ≤ 9223372036854775807) ∧ (ba = none → bc = 0) ∧ BIn wx ba (((accs l).drop m).flatMap V.bytes) ∧ Below wq.heap.size wq wx) (fun _ j _ => (accs l).length - (intOf j).toNat)
      case atStart => exact ⟨0, ba, bc, n, by omega, rfl, rfl, HN2.out, HNC.out, HBN.out.1, HBI2.out, Below.refl _ _⟩
      case round =>
        obtain ⟨m, ba, bc, n, hm, rfl, rfl, hn, hnc, hbn, hbi, hbx⟩ := hrel
        have HN3 := Lib.hid hn
        have HNC3 := Lib.hid (And.intro hnc hbn)
        have HBI3 := Lib.hid hbi
        have HBX := Lib.hid hbx
        have hnb : n ≤ 200000 := by
          have h1 := accB_len l
          have h2 : (((accs l).drop m).flatMap V.bytes).length ≤ (accB l).length := by
            unfold accB
            conv => rhs; rw [← List.take_append_drop m (accs l), List.flatMap_append, List.length_append]
            omega
          omega
        clear hn hnc hbn hbi hbx
        by_cases hlt : m < (accs l).length
        · have hdr : (accs l).drop m = (accs l)[m] :: (accs l).drop (m + 1) := List.drop_eq_getElem_cons hlt
          have hck := accs_check (List.getElem_mem hlt)
          have hok := HOK.out _ (List.getElem_mem hlt)
          obtain ⟨b, o, rfl, he1⟩ := HWL.out.resolve_left (fun e => by simp at e; simp [e] at hlt)
          obtain ⟨hD, sa, sc, c0, c1, c2, c3, c4, hv⟩ := (he1.below HBX.out).get (j := m) (by simpa using hlt)
          simp only [List.getElem_map] at c0 c1 c2 c3 c4 hv
          have hlen := V.bytes_length _ (V.check_zero hck).1
          generalize hy : (accs l)[m] = y at *
          have HRD := Lib.hid (vread_put hok hck (((accs l).drop (m + 1)).flatMap V.bytes))
          have hzs : ((accs l).drop m).flatMap V.bytes = y.bytes ++ ((accs l).drop (m + 1)).flatMap V.bytes := by rw [hdr, List.flatMap_cons]
          have HZS := Lib.hid hzs
          obtain ⟨xk, xi, xf, xs, xl, hcl⟩ := V.parts y.clean
          rw [hcl] at c0 c1 c2 c3 c4 hv
          simp only [V.k_mk, V.i_mk, V.f_mk, V.s_mk, V.l_mk] at c0 c1 c2 c3 c4 hv
          obtain ⟨M, hM⟩ : ∃ M, y.bytes.length = M := ⟨_, rfl⟩
          have HM := Lib.hid hM
          have HV := Lib.hid hv
          have HCL := Lib.hid hcl
          clear hv hcl hM hzs hdr hy hok hck hlen
          go_wp2_with fail
          have hR := Read2_n (N := n) (show vread (rd true 9 (((accs l).drop m).flatMap V.bytes)) = (V.mk xk xi xf xs xl, (M : Int), 0) by rw [HZS.out, HRD.out, HCL.out, HM.out]) HN3.out.symm ⟨by omega, HNC3.out.1⟩ HNC3.out.2 HBI3.out
          refine hR.mono ?_
          rintro e w4 ⟨sa8, sc8, rfl, hv8, hb8⟩
          simp only [V.k_mk, V.i_mk, V.f_mk, V.s_mk, V.l_mk] at hv8 ⊢
          have HV8 := Lib.hid hv8
          have HB8 := Lib.hid hb8
          have d0 := keepc hb8 c0
          have d1 := keepc hb8 c1
          have d2 := keepc hb8 c2
          have d3 := keepc hb8 c3
          have d4 := keepc hb8 c4
          have HA8 := Lib.hid ((Below.refl w4.heap.size w4).alloc (Nat.le_refl _) (.cells #[.int .i64 xk, .int .i64 xi, .float .f64 xf, .string xs, .slice sa8 xl.length sc8] 26))
          have HV8b := Lib.hid (HV8.out.below HA8.out)
          have HVb := Lib.hid ((HV.out.below HB8.out).below HA8.out)
          obtain ⟨⟨e0, e1, e2, e3, e4⟩, _⟩ := cells_of_block5 (block_alloc_at (w := w4) (.cells #[.int .i64 xk, .int .i64 xi, .float .f64 xf, .string xs, .slice sa8 xl.length sc8] 26) rfl)
          replace d0 := keepc HA8.out d0
          replace d1 := keepc HA8.out d1
          replace d2 := keepc HA8.out d2
          replace d3 := keepc HA8.out d3
          replace d4 := keepc HA8.out d4
          obtain ⟨a9, c9, ys, hys, hyl, hyn, hyb, hsl⟩ := sub_at ba bc (((accs l).drop m).flatMap V.bytes) M (by rw [HZS.out, List.length_append, HM.out]; omega) (by have h1 := HN3.out; have h2 := HNC3.out.1; omega) HNC3.out.2
          rw [← HN3.out] at hsl
          rw [HZS.out, ← HM.out, List.drop_left] at hys
          subst hys
          obtain ⟨n9, hn9⟩ : ∃ n9, (((accs l).drop (m + 1)).flatMap V.bytes).length = n9 := ⟨_, rfl⟩
          rw [hn9] at hsl hyl
          have HN9 := Lib.hid hn9
          have HY9 := Lib.hid (And.intro hyl (And.intro hyn (hyb _ HBI3.out)))
          clear hv8 hb8 hR c0 c1 c2 c3 c4 hn9 hyl hyn hyb
          go_wp2_with fail
          generalize w4.alloc _ = w5 at *
          have hB8 := HB8.out.size
          generalize w4.heap.size = B8 at *
          refine wp_region_held_drew (S := fun w' => ((w'.cell? ⟨B8, 0, none⟩ = some (.int .i64 xk) ∧ w'.cell? ⟨B8, 1, none⟩ = some (.int .i64 xi) ∧ w'.cell? ⟨B8, 2, none⟩ = some (.float .f64 xf) ∧ w'.cell? ⟨B8, 3, none⟩ = some (.string xs) ∧ w'.cell? ⟨B8, 4, none⟩ = some (.slice sa8 xl.length sc8)) ∧ w'.cell? ⟨b, o + m * 5, none⟩ = some (.int .i64 xk) ∧ w'.cell? ⟨b, o + m * 5 + 1, none⟩ = some (.int .i64 xi) ∧ w'.cell? ⟨b, o + m * 5 + 2, none⟩ = some (.float .f64 xf) ∧ w'.cell? ⟨b, o + m * 5 + 3, none⟩ = some (.string xs) ∧ w'.cell? ⟨b, o + m * 5 + 4, none⟩ = some (.slice sa xl.length sc)) ∧ Below w5.heap.size w5 w') (by kernel_rfl) ⟨⟨⟨e0, e1, e2, e3, e4⟩, d0, d1, d2, d3, d4⟩, (Below.refl w5.heap.size w5).drew⟩ (fun hT => ?_)
          refine H_take 0 hT rfl (by kernel_rfl) (by kernel_rfl) (by kernel_rfl) (fun _ _ _ h => h) (by rfl) (by (intro w' hw'; (try dsimp only at hw'); go_simp; try with_reducible rfl)) ?_
          try simp only [Act.put, List.setIfInBounds_toArray, List.set_cons_zero, List.set_cons_succ]
          refine H_take 1 hT rfl (by kernel_rfl) (by kernel_rfl) (by kernel_rfl) (fun _ _ _ h => h) (by rfl) (by (intro w' hw'; (try dsimp only at hw'); go_simp; try with_reducible rfl)) ?_
          try simp only [Act.put, List.setIfInBounds_toArray, List.set_cons_zero, List.set_cons_succ]
          refine H_take 2 hT rfl (by kernel_rfl) (by kernel_rfl) (by kernel_rfl) (fun _ _ _ h => h) (by rfl) (by (intro w' hw'; (try dsimp only at hw'); go_simp; try with_reducible rfl)) ?_
          try simp only [Act.put, List.setIfInBounds_toArray, List.set_cons_zero, List.set_cons_succ]
          refine H_take 3 hT rfl (by kernel_rfl) (by kernel_rfl) (by kernel_rfl) (fun _ _ _ h => h) (by rfl) (by (intro w' hw'; (try dsimp only at hw'); go_simp; try with_reducible rfl)) ?_
          try simp only [Act.put, List.setIfInBounds_toArray, List.set_cons_zero, List.set_cons_succ]
          refine H_take 4 hT rfl (by kernel_rfl) (by kernel_rfl) (by kernel_rfl) (fun _ _ _ h => h) (by rfl) (by (intro w' hw'; (try dsimp only at hw'); go_simp; try with_reducible rfl)) ?_
          try simp only [Act.put, List.setIfInBounds_toArray, List.set_cons_zero, List.set_cons_succ]
          refine H_take 5 hT rfl (by kernel_rfl) (by kernel_rfl) (by kernel_rfl) (fun _ _ _ h => h) (by rfl) (by (intro w' hw'; (try dsimp only at hw'); go_simp; try with_reducible rfl)) ?_
          try simp only [Act.put, List.setIfInBounds_toArray, List.set_cons_zero, List.set_cons_succ]
          refine H_take 6 hT rfl (by kernel_rfl) (by kernel_rfl) (by kernel_rfl) (fun _ _ _ h => h) (by rfl) (by (intro w' hw'; (try dsimp only at hw'); go_simp; try with_reducible rfl)) ?_
          try simp only [Act.put, List.setIfInBounds_toArray, List.set_cons_zero, List.set_cons_succ]
          refine H_take 7 hT rfl (by kernel_rfl) (by kernel_rfl) (by kernel_rfl) (fun _ _ _ h => h) (by rfl) (by (intro w' hw'; (try dsimp only at hw'); go_simp; try with_reducible rfl)) ?_
          try simp only [Act.put, List.setIfInBounds_toArray, List.set_cons_zero, List.set_cons_succ]
          refine H_one 8 rfl (by kernel_rfl) (fun K hK => ?_)
          rw [if_pos (by rfl)]
          go_simp
          refine (same_c (V.mk xk xi xf xs xl) (V.mk xk xi xf xs xl) _ _ _ _ _ (HV8b.out.below hT.2) (HVb.out.below hT.2)).mono ?_
          rintro e w6 ⟨rfl, hb6⟩
          rw [V.same_self]
          refine hK _ _ ⟨⟨⟨keepc hb6 hT.1.1.1, keepc hb6 hT.1.1.2.1, keepc hb6 hT.1.1.2.2.1, keepc hb6 hT.1.1.2.2.2.1, keepc hb6 hT.1.1.2.2.2.2⟩, keepc hb6 hT.1.2.1, keepc hb6 hT.1.2.2.1, keepc hb6 hT.1.2.2.2.1, keepc hb6 hT.1.2.2.2.2.1, keepc hb6 hT.1.2.2.2.2.2⟩, hT.2.trans (hb6.mono hT.2.size)⟩ (fun hT6 => ?_)
          clear hK hT hb6
          try simp only [Act.put, List.setIfInBounds_toArray, List.set_cons_zero, List.set_cons_succ]
          refine H_take 9 hT6 rfl (by kernel_rfl) (by kernel_rfl) (by kernel_rfl) (fun _ _ _ h => h) (by rfl) (by (intro w' hw'; (try dsimp only at hw'); go_simp; try with_reducible rfl)) ?_
          try simp only [Act.put, List.setIfInBounds_toArray, List.set_cons_zero, List.set_cons_succ]
          refine H_take 10 hT6 rfl (by kernel_rfl) (by kernel_rfl) (by kernel_rfl) (fun _ _ _ h => h) (by rfl) (by (intro w' hw'; (try dsimp only at hw'); go_simp; try with_reducible rfl)) ?_
          try simp only [Act.put, List.setIfInBounds_toArray, List.set_cons_zero, List.set_cons_succ]
          refine wpAnyH_done (by kernel_rfl) ?_ _
          obtain ⟨_, hb7⟩ := hT6
          have HB7 := Lib.hid hb7
          clear hb7 d0 d1 d2 d3 d4 e0 e1 e2 e3 e4
          go_wp2_with fail
          have hbw := (HB8.out.trans (HA8.out.mono hB8)).trans (HB7.out.mono (HB8.out.trans (HA8.out.mono hB8)).size)
          refine ⟨⟨m + 1, a9, c9, n9, by omega, by go_num, rfl, HN9.out.symm, HY9.out.1, HY9.out.2.1, HY9.out.2.2.below hbw, HBX.out.trans (hbw.mono HBX.out.size)⟩, by simp [intOf]; omega⟩
        · obtain rfl : m = (accs l).length := by omega
          have hz := HN3.out
          rw [List.drop_length] at hz
          simp only [List.flatMap_nil, List.length_nil] at hz
          subst hz
          go_wp2_with fail
          go_ret
          exact ⟨rfl, HB.out.trans (HBX.out.mono HB.out.size)⟩
theorem wireTogether_c (a : Option Addr) (c : Nat) (l : List V) (w : World) (hl : l.length ≤ c ∧ c ≤ 9223372036854775807) (he : LIn (fun _ => True) w a l) :
    Calls Try.prog 8 #[.slice a l.length c] w fun e w' => e = .returned (.bool true) ∧ Below w.heap.size w w' := by
  cases h : V.lights l with
  | false => exact wireTogether_heavy a c l w hl he h
  | true => exact wireTogether_light a c l w hl he h
end Go.Proofs.Ytoddajaepnfgnaa
