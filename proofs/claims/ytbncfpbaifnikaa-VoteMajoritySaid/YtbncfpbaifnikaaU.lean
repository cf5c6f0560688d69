/- The vote's result. -/
import Derived.Test.YtbncfpbaifnikaaS
namespace Go.Proofs.Ytbncfpbaifnikaa
open Go Go.RowKit
attribute [local go_sem ↓] run_store_float

/-- The result's nine cells in the vote. -/
abbrev atR (w : World) (vb : Nat) (r : Rp) : Prop :=
  w.cell? ⟨vb, 8, none⟩ = some (.int .u32 r.c) ∧ w.cell? ⟨vb, 9, none⟩ = some (.int .u32 r.s) ∧ w.cell? ⟨vb, 10, none⟩ = some (.int .u16 r.n) ∧ w.cell? ⟨vb, 11, none⟩ = some (.int .i64 r.e) ∧ w.cell? ⟨vb, 12, none⟩ = some (.int .i64 r.k) ∧
      w.cell? ⟨vb, 13, none⟩ = some (.int .i64 r.i) ∧ w.cell? ⟨vb, 14, none⟩ = some (.float .f64 r.f) ∧ w.cell? ⟨vb, 15, none⟩ = some (.string r.t) ∧ w.cell? ⟨vb, 16, none⟩ = some (.slice none 0 0)
theorem atR.keep {w w1 : World} (hb : Below w.heap.size w w1) {vb r} (h : atR w vb r) : atR w1 vb r := by
  obtain ⟨h0, h1, h2, h3, h4, h5, h6, h7, h8⟩ := h
  exact ⟨keepc hb h0, keepc hb h1, keepc hb h2, keepc hb h3, keepc hb h4, keepc hb h5, keepc hb h6, keepc hb h7, keepc hb h8⟩
theorem atR.set {w : World} {vb b i : Nat} {r : Rp} {u : Value} (hne : b ≠ vb) (h : atR w vb r) : atR (w.setCell ⟨b, i, none⟩ u) vb r := by
  obtain ⟨h0, h1, h2, h3, h4, h5, h6, h7, h8⟩ := h
  have c : ∀ o, (w.setCell ⟨b, i, none⟩ u).cell? ⟨vb, o, none⟩ = w.cell? ⟨vb, o, none⟩ := fun o => World.cell?_setCell_other w ⟨b, i, none⟩ ⟨vb, o, none⟩ u (fun e => hne (by simpa using congrArg Addr.block e))
  exact ⟨(c _).trans h0, (c _).trans h1, (c _).trans h2, (c _).trans h3, (c _).trans h4, (c _).trans h5, (c _).trans h6, (c _).trans h7, (c _).trans h8⟩

theorem result_no (vb : Nat) (v : Vt) (wa la : Value) (w : World) (h : VoteIn w vb v wa la) (his : v.is = false) :
    Calls Try.prog 16 #[.pointer (some ⟨vb, 0, none⟩)] w fun e w' => e = .returned (.tuple #[zeroR.val, .bool false]) ∧ Below w.heap.size w w' := by
  have hvb := h.lt
  obtain ⟨⟨v0, v1, v2, v3, v4, v5, v6, v7⟩, hfz⟩ := h.own
  rw [his] at v7
  clear h
  go_enter Try.func16, Try.ntmps16
  go_wp2_with fail
  refine bodyPost_ret (v := .tuple #[zeroR.val, .bool false]) (by simp [results, Try.results16, go_sem, zeroR]) rfl ⟨rfl, ?_⟩
  exact (Below.refl _ _).alloc (Nat.le_refl _) _

set_option maxHeartbeats 800000 in
theorem result_yes (vb : Nat) (v : Vt) (wa la : Value) (w : World) (h : VoteIn w vb v wa la) (his : v.is = true) (hk : v.res.k ≠ 4) :
    Calls Try.prog 16 #[.pointer (some ⟨vb, 0, none⟩)] w fun e w' => e = .returned (.tuple #[(cfR v.res).val, .bool true]) ∧ Below w.heap.size w w' := by
  have hvb := h.lt
  obtain ⟨⟨v0, v1, v2, v3, v4, v5, v6, v7⟩, hfz⟩ := h.own
  have HR := Lib.hid (show atR w vb v.res from res_of_block h.1)
  rw [his] at v7
  have hne : w.heap.size ≠ vb := Nat.ne_of_gt hvb
  obtain ⟨p1, p2, p3, p4⟩ := cfR_id v.res
  have HP := Lib.hid (And.intro p1 (And.intro p2 (And.intro p3 p4)))
  clear h his p1 p2 p3 p4
  go_enter Try.func16, Try.ntmps16
  go_wp2_with fail
  go_region_held3 (fun w' => atR w' vb v.res) (first | with_reducible assumption | with_reducible exact (HR.out.keep (alloc_below _ _).drew) | with_reducible exact atR.keep hb5 (by assumption) | ((iterate 9 (with_reducible refine atR.set hne ?_)); with_reducible assumption))
    (first | (go_at_call 30; refine (clone_flat v.res.k v.res.i v.res.f v.res.t _ _ _ _ hk).mono ?_; rintro e w5 ⟨rfl, hb5⟩; rw [cf_cfR]; obtain ⟨⟨z0, z1, z2, z3, z4, z5, z6, z7, z8⟩, zf⟩ := cells_of_block9 (block_below hb5 (heap_alloc_new w _)); have hz5 : w.heap.size < w5.heap.size := World.block_lt_of_cell? w5 _ z0))
  have HB := Lib.hid (((alloc_below w _).drew).trans (hb5.mono (by simp)))
  go_wp2_with fail
  refine bodyPost_ret (v := .tuple #[(cfR v.res).val, .bool true]) (by simp [results, Try.results16, go_sem, z0, z1, z2, z3, z4, z5, z6, z7, z8, HP.out.1, HP.out.2.1, HP.out.2.2.1, HP.out.2.2.2]) rfl ⟨rfl, ?_⟩
  exact below9 HB.out (Nat.le_refl _) _ _ _ _ _ _ _ _ _
end Go.Proofs.Ytbncfpbaifnikaa
