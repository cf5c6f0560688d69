/- known: the chapter's example. -/
import Derived.Test.YtkhgbbloeeaceaaLa
namespace Go.Proofs.Ytkhgbbloeeaceaa
open Go Go.RowKit
set_option maxRecDepth 16000
attribute [local go_sem ↓] run_store_float

theorem int1_check : (V.int 1).check = 0 := by
  simp [V.check, V.int, V.odd_mk, V.great_mk, V.size_mk, wrap64]
theorem int1_put : vput [] (V.int 1) = ([1, 0, 0, 0, 0, 0, 0, 0, 1], 0) := by
  unfold vput
  rw [if_pos int1_check]
  simp [V.int, V.bytes_mk, u64N, beB]
theorem int1_read : vread (rd true 9 [1, 0, 0, 0, 0, 0, 0, 0, 1]) = (V.mk 1 1 0 ⟨#[]⟩ [], 9, 0) := by
  rw [rd_cons]
  simp [beN, i64N, wrap64, vread, int1_check]
  rfl
theorem nine_read : vread (rd true 9 [9]) = (V.mk 0 0 0 ⟨#[]⟩ [], 0, 20) := by
  rw [rd_cons]
  simp [vread]
  rfl
theorem two_read : readU [1, 2] 2 = (258, true) := by decide
theorem ab_put : ptext [] ⟨#[97, 98]⟩ 5 = ([0, 2, 97, 98], 0) := by decide
theorem txt1 : txtB [1, 0, 0, 0, 0, 0, 0, 0, 1] = ⟨#[1, 0, 0, 0, 0, 0, 0, 0, 1]⟩ := by decide
theorem txt2 : txtB [0, 2, 97, 98] = ⟨#[0, 2, 97, 98]⟩ := by decide
theorem Bs.binB {w base sl zs} (h : Bs w base sl zs) (hz : Byt zs) (hl : zs.length ≤ 140737488355328) : ∃ a c, sl = .slice a zs.length c ∧ (zs.length ≤ c ∧ c ≤ 9223372036854775807) ∧ (a = none → c = 0) ∧ BIn w a zs := by
  obtain ⟨a, c, rfl, h1, h2, h3⟩ := h.form (by omega)
  exact ⟨a, c, rfl, ⟨h1, h2⟩, h3, h.bin hz⟩
theorem BIn.one {w : World} {b : Nat} {z : Int} {e : TypeId} (h : w.heap[b]? = some (.cells #[.int .u8 z] e)) (hz : 0 ≤ z ∧ z ≤ 255) : BIn w (some ⟨b, 0, none⟩) [z] := by
  intro j hj
  have : j = 0 := by simpa using hj
  subst this
  exact ⟨b, 0, rfl, by simp [World.cell?, h], hz⟩
theorem BIn.two {w : World} {b : Nat} {y z : Int} {e : TypeId} (h : w.heap[b]? = some (.cells #[.int .u8 y, .int .u8 z] e)) (hy : 0 ≤ y ∧ y ≤ 255) (hz : 0 ≤ z ∧ z ≤ 255) : BIn w (some ⟨b, 0, none⟩) [y, z] := by
  intro j hj
  rcases j with _ | _ | j
  · exact ⟨b, 0, rfl, by simp [World.cell?, h], hy⟩
  · exact ⟨b, 0, rfl, by simp [World.cell?, h], hz⟩
  · simp at hj; omega

theorem Read2_n {a : Option Addr} {c N : Nat} {zs : List Int} {w : World} {r : V × Int × Int} (hr : vread (rd true 9 zs) = r) (hN : zs.length = N) (hl : N ≤ 140737488355328 ∧ N ≤ c ∧ c ≤ 9223372036854775807) (hc : a = none → c = 0) (hz : BIn w a zs) :
    Calls Try.prog 66 #[.slice a N c] w (RetR w r) := by
  subst hr; subst hN
  exact Read2_c a c zs w hl hc hz
theorem readU2_n {a : Option Addr} {c N : Nat} {zs : List Int} {n : Int} {w : World} {u : Nat} {ok : Bool} (hr : readU zs n = (u, ok)) (hN : zs.length = N) (hl : N ≤ c ∧ c ≤ 9223372036854775807) (hz : BIn w a zs) :
    Calls Try.prog 65 #[.slice a N c, .int .i64 n] w fun e w' => e = .returned (.tuple #[.int .u64 u, .bool ok]) ∧ w = w' := by
  subst hN
  have := readU2_c a c zs n w hl hz
  rw [hr] at this
  exact this

end Go.Proofs.Ytkhgbbloeeaceaa
