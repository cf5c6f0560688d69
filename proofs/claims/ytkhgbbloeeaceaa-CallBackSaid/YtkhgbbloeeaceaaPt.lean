/- Texts put, texts read: by the program, by the reference. -/
import Derived.Test.YtkhgbbloeeaceaaSt
import Derived.Test.YtkhgbbloeeaceaaWb
import Derived.Outline
namespace Go.Proofs.Ytkhgbbloeeaceaa
open Go Go.RowKit
set_option maxRecDepth 16000

/-- What PutText tells: bytes, an error's number. -/
def ptext (zs : List Int) (s : ByteArray) (most : Int) : List Int × Int := if most < s.size ∨ 65535 < s.size then ([], 22) else (zs ++ beB s.size 2 ++ strI s, 0)

/-- Bytes, and an error's number, come back. -/
def RetBE (w : World) (base : Nat) (sl : Value) (r : List Int × Int) (e : Ending) (w' : World) : Prop := ∃ sl', e = .returned (.tuple #[sl', .int .i64 r.2]) ∧ Ap w w' base sl sl' r.1
theorem Ap.nil {w base sl} : Ap w w base sl (.slice none 0 0) [] := ⟨.inl (World.ownsRow_nil _ _ _ _), ⟨rfl, rfl, rfl, Nat.le_refl _, fun _ _ _ => rfl⟩, (fun _ h => by cases h), fun _ => World.ownsRow_nil _ _ _ _⟩
theorem nOf2 : nOf 2 = 2 := by decide

theorem ptext1_c (base : Nat) (sl : Value) (zs : List Int) (s : ByteArray) (most : Int) (w : World) (hb : Bs w base sl zs) (hbase : base ≤ w.heap.size) (hl : zs.length ≤ 140737488000000) (hs : s.size ≤ 140737488351232) :
    Calls Try.prog 30 #[sl, .string s, .int .i64 most] w (RetBE w base sl (ptext zs s most)) := by
  have HB := Lib.hid hb
  clear hb
  by_cases h1 : most < s.size
  · have e : ptext zs s most = ([], 22) := by unfold ptext; rw [if_pos (.inl h1)]
    rw [e]; clear e
    go_enter Try.func30, Try.ntmps30
    go_wp2_with fail
    exact bodyPost_ret (v := .tuple #[.slice none 0 0, .int .i64 22]) (by simp [results, Try.results30, go_sem]) rfl ⟨_, rfl, Ap.nil⟩
  by_cases h2 : (65535 : Int) < s.size
  · have e : ptext zs s most = ([], 22) := by unfold ptext; rw [if_pos (.inr (by omega))]
    rw [e]; clear e
    go_enter Try.func30, Try.ntmps30
    go_wp2_with fail
    exact bodyPost_ret (v := .tuple #[.slice none 0 0, .int .i64 22]) (by simp [results, Try.results30, go_sem]) rfl ⟨_, rfl, Ap.nil⟩
  · have e : ptext zs s most = (zs ++ beB s.size 2 ++ strI s, 0) := by unfold ptext; rw [if_neg (by omega)]
    rw [e]; clear e
    go_enter Try.func30, Try.ntmps30
    go_wp2_with fail
    refine (putU1_c base sl zs s.size (by omega) 2 _ HB.out hbase (by omega)).mono ?_
    rintro e w1 ⟨sl1, rfl, hap⟩
    rw [nOf2] at hap
    have HA := Lib.hid hap
    have HL := Lib.hid (show (zs ++ beB s.size 2).length + s.size ≤ 140737488355328 by rw [List.length_append, beB_length]; omega)
    have hba : base ≤ w1.heap.size := Nat.le_trans hbase hap.grew.size
    clear hap
    go_wp2_with (at_builtin; (refine wpList_append_bs_str _ rfl _ _ rfl base sl1 (zs ++ beB s.size 2) rfl HA.out.bs s rfl HL.out hba ?_; intro sl2 w2 hap2))
    have HA2 := Lib.hid hap2
    clear hap2
    go_wp2_with fail
    exact bodyPost_ret (v := .tuple #[sl2, .int .i64 0]) (by simp [results, Try.results30, go_sem]) rfl ⟨_, rfl, HA.out.trans HA2.out⟩

/-- Fresh bytes, and an error's number, come back. -/
def RetNE (w : World) (base : Nat) (r : List Int × Int) (e : Ending) (w' : World) : Prop :=
  ∃ sl', e = .returned (.tuple #[sl', .int .i64 r.2]) ∧ Bs w' base sl' r.1 ∧ Below w.heap.size w w' ∧ ∀ k, sl'.ownBlock = some k → w.heap.size ≤ k
theorem Bs.nil {w base} : Bs w base (.slice none 0 0) [] := .inl (World.ownsRow_nil _ _ _ _)
/-- Fresh, and appended to. -/
theorem Ap.fresh {w w1 w2 base sl1 sl2 zs} (h : Ap w1 w2 base sl1 sl2 zs) (hb : Below w.heap.size w w1) (hat : ∀ k, sl1.ownBlock = some k → w.heap.size ≤ k) : Bs w2 base sl2 zs ∧ Below w.heap.size w w2 ∧ ∀ k, sl2.ownBlock = some k → w.heap.size ≤ k := by
  refine ⟨h.bs, hb.grown h.grew hb.size (fun k hk => hat k (obk_some.1 hk).1), fun k hk => ?_⟩
  rcases h.at_ k hk with e | e
  · exact hat k e
  · exact Nat.le_trans hb.size e

theorem ptext2_c (base : Nat) (a : Option Addr) (c : Nat) (zs : List Int) (s : ByteArray) (most : Int) (w : World) (hz : BIn w a zs) (hc : a = none → c = 0) (hlc : zs.length ≤ c) (hbase : base ≤ w.heap.size) (hl : zs.length ≤ 140737488000000) (hs : s.size ≤ 140737488351232) :
    Calls Try.prog 59 #[.slice a zs.length c, .string s, .int .i64 most] w (RetNE w base (ptext zs s most)) := by
  have HB := Lib.hid hz
  clear hz
  by_cases h1 : most < s.size
  · have e : ptext zs s most = ([], 22) := by unfold ptext; rw [if_pos (.inl h1)]
    rw [e]; clear e
    by_cases h2 : most ≤ 65535
    all_goals
      go_enter Try.func59, Try.ntmps59
      go_wp2_with fail
      exact bodyPost_ret (v := .tuple #[.slice none 0 0, .int .i64 22]) (by simp [results, Try.results59, go_sem]) rfl ⟨_, rfl, Bs.nil, Below.refl _ _, fun _ h => by cases h⟩
  by_cases h2 : (65535 : Int) < s.size
  · have e : ptext zs s most = ([], 22) := by unfold ptext; rw [if_pos (.inr (by omega))]
    rw [e]; clear e
    go_enter Try.func59, Try.ntmps59
    go_wp2_with fail
    exact bodyPost_ret (v := .tuple #[.slice none 0 0, .int .i64 22]) (by simp [results, Try.results59, go_sem]) rfl ⟨_, rfl, Bs.nil, Below.refl _ _, fun _ h => by cases h⟩
  · have e : ptext zs s most = (zs ++ beB s.size 2 ++ strI s, 0) := by unfold ptext; rw [if_neg (by omega)]
    rw [e]; clear e
    by_cases h3 : most ≤ 65535
    all_goals
      go_enter Try.func59, Try.ntmps59
      go_wp2_with fail
      refine (putU2_c base a c zs s.size (by omega) 2 _ HB.out hc hlc hbase (by omega)).mono ?_
      rintro e w1 ⟨sl1, rfl, hbs, hbel, hat⟩
      rw [nOf2] at hbs
      have HA := Lib.hid hbs
      have HF := Lib.hid (And.intro hbel hat)
      have HL := Lib.hid (show (zs ++ beB s.size 2).length + s.size ≤ 140737488355328 by rw [List.length_append, beB_length]; omega)
      have hba : base ≤ w1.heap.size := Nat.le_trans hbase hbel.size
      clear hbs hbel hat
      go_wp2_with (at_builtin; (refine wpList_append_bs_str _ rfl _ _ rfl base sl1 (zs ++ beB s.size 2) rfl (.inl HA.out) s rfl HL.out hba ?_; intro sl2 w2 hap2))
      have HA2 := Lib.hid hap2
      clear hap2
      go_wp2_with fail
      exact bodyPost_ret (v := .tuple #[sl2, .int .i64 0]) (by simp [results, Try.results59, go_sem]) rfl ⟨_, rfl, HA2.out.fresh HF.out.1 HF.out.2⟩

/-- What ReadText tells: a text, how many bytes, an error's number. -/
def rtext (zs : List Int) (most : Int) : ByteArray × Int × Int :=
  if zs.length < 2 then (⟨#[]⟩, 0, 20) else if most < beN (zs.take 2) ∨ (zs.length : Int) - 2 < beN (zs.take 2) then (⟨#[]⟩, 0, 20) else (txtB ((zs.drop 2).take (beN (zs.take 2))), 2 + (beN (zs.take 2) : Int), 0)
theorem rtext1_c (a : Option Addr) (c : Nat) (zs : List Int) (most : Int) (w : World) (hl : zs.length ≤ c ∧ c ≤ 9223372036854775807) (hz : BIn w a zs) :
    Calls Try.prog 40 #[.slice a zs.length c, .int .i64 most] w fun e w' => e = .returned (.tuple #[.string (rtext zs most).1, .int .i64 (rtext zs most).2.1, .int .i64 (rtext zs most).2.2]) ∧ w = w' := by
  have HZ := Lib.hid hz
  have hbyt : ∀ m, beN (zs.take m) < 1 * 256 ^ (zs.take m).length := fun m => beN_lt _ (fun c hc => hz.byt c (List.mem_of_mem_take hc)) 0
  have hn := hbyt 2
  clear hz hbyt
  generalize hr : rtext zs most = r
  have HR := Lib.hid hr.symm
  clear hr
  by_cases h1 : zs.length < 2
  · have HU := Lib.hid (show readU zs 2 = (0, false) by unfold readU; rw [if_pos (by omega)])
    have HR1 := Lib.hid (show r = (⟨#[]⟩, 0, 20) by rw [HR.out]; unfold rtext; rw [if_pos h1])
    clear hn
    go_enter Try.func40, Try.ntmps40
    go_wp2_with fail
    refine (readU1_c a c zs 2 w (by omega) HZ.out).mono ?_
    rintro e w' ⟨rfl, rfl⟩
    rw [HU.out]
    go_wp2_with fail
    refine bodyPost_ret (v := .tuple #[.string r.1, .int .i64 r.2.1, .int .i64 r.2.2]) ?_ rfl ⟨rfl, rfl⟩
    rw [HR1.out]
    simp [results, Try.results40, go_sem]
  · have hn2 : beN (zs.take 2) < 65536 := by
      rw [show (zs.take 2).length = 2 by simp; omega] at hn
      omega
    clear hn
    generalize hN : beN (zs.take 2) = N at hn2
    have HN := Lib.hid hN
    clear hN
    have HU := Lib.hid (show readU zs 2 = (N, true) by unfold readU; rw [if_neg (by omega)]; exact congrArg (fun x => (x, true)) HN.out)
    by_cases h2 : most < N
    · have HR1 := Lib.hid (show r = (⟨#[]⟩, 0, 20) by rw [HR.out]; unfold rtext; rw [if_neg h1, if_pos (.inl (by rw [HN.out]; exact h2))])
      go_enter Try.func40, Try.ntmps40
      go_wp2_with fail
      refine (readU1_c a c zs 2 w (by omega) HZ.out).mono ?_
      rintro e w' ⟨rfl, rfl⟩
      rw [HU.out]
      go_wp2_with fail
      refine bodyPost_ret (v := .tuple #[.string r.1, .int .i64 r.2.1, .int .i64 r.2.2]) ?_ rfl ⟨rfl, rfl⟩
      rw [HR1.out]
      simp [results, Try.results40, go_sem]
    by_cases h3 : (zs.length : Int) - 2 < N
    · have HR1 := Lib.hid (show r = (⟨#[]⟩, 0, 20) by rw [HR.out]; unfold rtext; rw [if_neg h1, if_pos (.inr (by rw [HN.out]; exact h3))])
      go_enter Try.func40, Try.ntmps40
      go_wp2_with fail
      refine (readU1_c a c zs 2 w (by omega) HZ.out).mono ?_
      rintro e w' ⟨rfl, rfl⟩
      rw [HU.out]
      go_wp2_with fail
      refine bodyPost_ret (v := .tuple #[.string r.1, .int .i64 r.2.1, .int .i64 r.2.2]) ?_ rfl ⟨rfl, rfl⟩
      rw [HR1.out]
      simp [results, Try.results40, go_sem]
    · have HR1 := Lib.hid (show r = (txtB ((zs.drop 2).take N), 2 + (N : Int), 0) by rw [HR.out]; unfold rtext; rw [if_neg h1, HN.out, if_neg (by omega)])
      obtain ⟨b, o, ha, _⟩ := HZ.out 0 (by omega)
      have hcv : ∀ (w' : World), w' = w → (convert 22 9 (.slice (some ⟨b, o + 2, none⟩) N (c - 2))).run Try.prog w' = .ok (.string (txtB ((zs.drop 2).take N))) w' := fun w' e => by
        subst e
        refine run_convert_bin _ _ _ _ _ (fun j hj => ?_) (by simp; omega)
        obtain ⟨b2, o2, e2, hc2, h0, h1⟩ := HZ.out (2 + j) (by simp at hj; omega)
        rw [ha] at e2
        simp only [Option.some.injEq, Addr.mk.injEq] at e2
        obtain ⟨rfl, rfl, _⟩ := e2
        refine ⟨_, _, rfl, ?_, ?_, ?_⟩
        · simp only [List.getElem_take, List.getElem_drop]; rw [Nat.add_assoc]; exact hc2
        · simp only [List.getElem_take, List.getElem_drop]; exact h0
        · simp only [List.getElem_take, List.getElem_drop]; exact h1
      have hcv1 := hcv w rfl
      have hcv2 : N = 0 → (convert 22 9 (.slice (some ⟨b, o, none⟩) N 0)).run Try.prog w = .ok (.string (txtB ((zs.drop 2).take N))) w := fun e => by
        subst e
        exact run_convert_bin _ _ _ _ _ (fun j hj => by simp at hj) rfl
      clear hcv
      subst ha
      have h4 : (2 : Int) + N ≤ c := by omega
      have h5 : ¬ (zs.length : Int) < 2 := by omega
      by_cases h6 : c = 2
      · have hcv3 := hcv2 (by omega)
        subst h6
        clear hcv1 hcv2
        go_enter Try.func40, Try.ntmps40
        go_wp2_with fail
        refine (readU1_c _ 2 zs 2 w (by omega) HZ.out).mono ?_
        rintro e w' ⟨rfl, rfl⟩
        rw [HU.out]
        go_wp2_with fail
        refine bodyPost_ret (v := .tuple #[.string r.1, .int .i64 r.2.1, .int .i64 r.2.2]) ?_ rfl ⟨rfl, rfl⟩
        rw [HR1.out]
        simp [results, Try.results40, go_sem]
      · clear hcv2
        go_enter Try.func40, Try.ntmps40
        go_wp2_with fail
        refine (readU1_c _ c zs 2 w (by omega) HZ.out).mono ?_
        rintro e w' ⟨rfl, rfl⟩
        rw [HU.out]
        go_wp2_with fail
        refine bodyPost_ret (v := .tuple #[.string r.1, .int .i64 r.2.1, .int .i64 r.2.2]) ?_ rfl ⟨rfl, rfl⟩
        rw [HR1.out]
        simp [results, Try.results40, go_sem]

theorem rtext2_c (a : Option Addr) (c : Nat) (zs : List Int) (most : Int) (w : World) (hl : zs.length ≤ c ∧ c ≤ 9223372036854775807) (hz : BIn w a zs) :
    Calls Try.prog 64 #[.slice a zs.length c, .int .i64 most] w fun e w' => e = .returned (.tuple #[.string (rtext zs most).1, .int .i64 (rtext zs most).2.1, .int .i64 (rtext zs most).2.2]) ∧ w = w' := by
  have HZ := Lib.hid hz
  have hbyt : ∀ m, beN (zs.take m) < 1 * 256 ^ (zs.take m).length := fun m => beN_lt _ (fun c hc => hz.byt c (List.mem_of_mem_take hc)) 0
  have hn := hbyt 2
  clear hz hbyt
  generalize hr : rtext zs most = r
  have HR := Lib.hid hr.symm
  clear hr
  by_cases h1 : zs.length < 2
  · have HU := Lib.hid (show readU zs 2 = (0, false) by unfold readU; rw [if_pos (by omega)])
    have HR1 := Lib.hid (show r = (⟨#[]⟩, 0, 20) by rw [HR.out]; unfold rtext; rw [if_pos h1])
    clear hn
    go_enter Try.func64, Try.ntmps64
    go_wp2_with fail
    refine (readU2_c a c zs 2 w hl HZ.out).mono ?_
    rintro e w' ⟨rfl, rfl⟩
    rw [HU.out]
    go_wp2_with fail
    refine bodyPost_ret (v := .tuple #[.string r.1, .int .i64 r.2.1, .int .i64 r.2.2]) ?_ rfl ⟨rfl, rfl⟩
    rw [HR1.out]
    simp [results, Try.results64, go_sem]
  · have hn2 : beN (zs.take 2) < 65536 := by
      rw [show (zs.take 2).length = 2 by simp; omega] at hn
      omega
    clear hn
    generalize hN : beN (zs.take 2) = N at hn2
    have HN := Lib.hid hN
    clear hN
    have HU := Lib.hid (show readU zs 2 = (N, true) by unfold readU; rw [if_neg (by omega)]; exact congrArg (fun x => (x, true)) HN.out)
    by_cases h2 : most < N
    · have HR1 := Lib.hid (show r = (⟨#[]⟩, 0, 20) by rw [HR.out]; unfold rtext; rw [if_neg h1, if_pos (.inl (by rw [HN.out]; exact h2))])
      go_enter Try.func64, Try.ntmps64
      go_wp2_with fail
      refine (readU2_c a c zs 2 w hl HZ.out).mono ?_
      rintro e w' ⟨rfl, rfl⟩
      rw [HU.out]
      go_wp2_with fail
      refine bodyPost_ret (v := .tuple #[.string r.1, .int .i64 r.2.1, .int .i64 r.2.2]) ?_ rfl ⟨rfl, rfl⟩
      rw [HR1.out]
      simp [results, Try.results64, go_sem]
    by_cases h3 : (zs.length : Int) - 2 < N
    · have HR1 := Lib.hid (show r = (⟨#[]⟩, 0, 20) by rw [HR.out]; unfold rtext; rw [if_neg h1, if_pos (.inr (by rw [HN.out]; exact h3))])
      go_enter Try.func64, Try.ntmps64
      go_wp2_with fail
      refine (readU2_c a c zs 2 w hl HZ.out).mono ?_
      rintro e w' ⟨rfl, rfl⟩
      rw [HU.out]
      go_wp2_with fail
      refine bodyPost_ret (v := .tuple #[.string r.1, .int .i64 r.2.1, .int .i64 r.2.2]) ?_ rfl ⟨rfl, rfl⟩
      rw [HR1.out]
      simp [results, Try.results64, go_sem]
    · have HR1 := Lib.hid (show r = (txtB ((zs.drop 2).take N), 2 + (N : Int), 0) by rw [HR.out]; unfold rtext; rw [if_neg h1, HN.out, if_neg (by omega)])
      obtain ⟨b, o, ha, _⟩ := HZ.out 0 (by omega)
      have hcv : ∀ (w' : World), w' = w → (convert 22 9 (.slice (some ⟨b, o + 2, none⟩) N (c - 2))).run Try.prog w' = .ok (.string (txtB ((zs.drop 2).take N))) w' := fun w' e => by
        subst e
        refine run_convert_bin _ _ _ _ _ (fun j hj => ?_) (by simp; omega)
        obtain ⟨b2, o2, e2, hc2, h0, h1⟩ := HZ.out (2 + j) (by simp at hj; omega)
        rw [ha] at e2
        simp only [Option.some.injEq, Addr.mk.injEq] at e2
        obtain ⟨rfl, rfl, _⟩ := e2
        refine ⟨_, _, rfl, ?_, ?_, ?_⟩
        · simp only [List.getElem_take, List.getElem_drop]; rw [Nat.add_assoc]; exact hc2
        · simp only [List.getElem_take, List.getElem_drop]; exact h0
        · simp only [List.getElem_take, List.getElem_drop]; exact h1
      have hcv1 := hcv w rfl
      have hcv2 : N = 0 → (convert 22 9 (.slice (some ⟨b, o, none⟩) N 0)).run Try.prog w = .ok (.string (txtB ((zs.drop 2).take N))) w := fun e => by
        subst e
        exact run_convert_bin _ _ _ _ _ (fun j hj => by simp at hj) rfl
      clear hcv
      subst ha
      have h4 : (2 : Int) + N ≤ c := by omega
      have h5 : ¬ (zs.length : Int) < 2 := by omega
      by_cases h6 : c = 2
      · have hcv3 := hcv2 (by omega)
        subst h6
        clear hcv1 hcv2
        go_enter Try.func64, Try.ntmps64
        go_wp2_with fail
        refine (readU2_c _ 2 zs 2 w hl HZ.out).mono ?_
        rintro e w' ⟨rfl, rfl⟩
        rw [HU.out]
        go_wp2_with fail
        refine bodyPost_ret (v := .tuple #[.string r.1, .int .i64 r.2.1, .int .i64 r.2.2]) ?_ rfl ⟨rfl, rfl⟩
        rw [HR1.out]
        simp [results, Try.results64, go_sem]
      · clear hcv2
        go_enter Try.func64, Try.ntmps64
        go_wp2_with fail
        refine (readU2_c _ c zs 2 w hl HZ.out).mono ?_
        rintro e w' ⟨rfl, rfl⟩
        rw [HU.out]
        go_wp2_with fail
        refine bodyPost_ret (v := .tuple #[.string r.1, .int .i64 r.2.1, .int .i64 r.2.2]) ?_ rfl ⟨rfl, rfl⟩
        rw [HR1.out]
        simp [results, Try.results64, go_sem]
end Go.Proofs.Ytkhgbbloeeaceaa
