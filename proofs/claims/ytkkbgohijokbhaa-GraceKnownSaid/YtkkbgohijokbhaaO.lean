/- Arguments opened: a slice of records reads as a list. -/
import Derived.Test.YtkkbgohijokbhaaRows
import Derived.Test.YtkkbgohijokbhaaN
import Derived.ProofKit
import Derived.OpenShut
import Derived.ShutString
import Derived.ChangeOld
import Derived.Deep.SlicePairs
import Derived.Lib.SmallJoins
namespace Go.Proofs.Ytkkbgohijokbhaa
open Go.ChangeShapes Go.WideShapes Go.ChangeAt Go.RowKit Go.Deep

theorem own : ownKnob Try.prog.godebug = none := by kernel_rfl
theorem laidOut : laidOutB Try.prog = true := by kernel_rfl

theorem open_recs {H : Type} {enc : TypeId × Value → H} {w : World} {base : Nat} {spare : Nat → Bool} {held : Bool} {fuel : Nat} {A : Option Addr} {n c : Nat} {x : DataW H × List MemPlace}
    (h : DataW.trod enc Try.prog w base spare held fuel 22 [.slice A n c] = some x) : ∃ l, RD w A n l ∧ n ≤ c ∧ c ≤ maxLen := by
  rcases open_slice_pairs Try.underlying22 Try.underlying24 (by kernel_rfl) rfl rfl (by kernel_rfl) (by kernel_rfl) h with ⟨hcs, _⟩ | ⟨a, len, cap, m, k, V0, V1, D0, D1, P0, P1, hcs, hb, hl, hm, hmm, _, hc⟩
  · simp at hcs
    obtain ⟨rfl, rfl, rfl⟩ := hcs
    exact ⟨[], RD.nil w none, Nat.le_refl _, by simp [maxLen]⟩
  · simp at hcs
    obtain ⟨rfl, rfl, rfl⟩ := hcs
    have hnm : n ≤ m := by rw [hmm]; split <;> omega
    have each : ∀ i, i < n → ∃ q : Gr.Rec, w.cell? (a.add (i * 2)) = some (.int .i64 q.1) ∧ w.cell? (a.add (i * 2 + 1)) = some (.int .i64 q.2) := by
      intro i hi
      obtain ⟨g0, g1, t0, t1⟩ := hc i (by omega)
      obtain ⟨z0, e0, _⟩ := DataW.trod_int Try.underlying3 t0
      obtain ⟨z1, e1, _⟩ := DataW.trod_int Try.underlying3 t1
      simp at e0 e1
      exact ⟨(z0, z1), by rw [g0, e0], by rw [g1, e1]⟩
    obtain ⟨q, hq⟩ := choose_lt each
    refine ⟨(List.range n).map q, ⟨by simp, by rw [cellsR_length]; simp, fun hn => ?_⟩, hl, hm⟩
    have hs0 := World.cell?_spot (hq 0 hn).1
    obtain ⟨b, o, s⟩ := a
    have hs : s = none := by simpa [Addr.add] using hs0
    subst hs
    have hb0 := World.block_lt_of_cell? w _ (hq 0 hn).1
    refine ⟨b, o, rfl, by simpa [Addr.add] using hb0, fun j u hu => ?_⟩
    have hj : j < n * 2 := by
      have := (List.getElem?_eq_some_iff.1 hu).1
      rw [cellsR_length] at this
      simpa using this
    have hadd : ∀ i, (⟨b, o, none⟩ : Addr).add i = ⟨b, o + i, none⟩ := fun i => by unfold Addr.add; split <;> simp_all
    have hl := cellsR_at ((List.range n).map q) (j / 2) (by simp; omega)
    have hqj := hq (j / 2) (by omega)
    rw [hadd, hadd] at hqj
    simp only [List.getElem_map, List.getElem_range] at hl
    rcases Nat.mod_two_eq_zero_or_one j with h0 | h0
    · have hj2 : j = j / 2 * 2 := by omega
      rw [hj2] at hu ⊢
      rw [hl.1] at hu
      exact hqj.1.trans hu
    · have hj2 : j = j / 2 * 2 + 1 := by omega
      rw [hj2] at hu ⊢
      rw [hl.2] at hu
      exact hqj.2.trans hu
end Go.Proofs.Ytkkbgohijokbhaa
