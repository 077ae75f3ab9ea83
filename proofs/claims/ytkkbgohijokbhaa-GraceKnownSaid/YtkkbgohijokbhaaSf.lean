/- Arguments opened: a slice of calls. -/
import Derived.Test.YtkkbgohijokbhaaO
import Derived.Test.YtkkbgohijokbhaaSe
namespace Go.Proofs.Ytkkbgohijokbhaa
open Go.ChangeShapes Go.WideShapes Go.ChangeAt Go.RowKit Go.Deep

theorem cells48 : Try.prog.cellsOf 48 = 3 := by kernel_rfl
theorem cells3 : Try.prog.cellsOf 3 = 1 := by kernel_rfl
theorem open_dos {H : Type} {enc : TypeId × Value → H} {w : World} {base : Nat} {spare : Nat → Bool} {held : Bool} {fuel : Nat} {A : Option Addr} {n c : Nat} {x : DataW H × List MemPlace}
    (h : DataW.trod enc Try.prog w base spare held fuel 39 [.slice A n c] = some x) : Dos w A n := by
  rcases open_slice Try.underlying39 h with ⟨hcs, _⟩ | ⟨a, len, cap, m, k, D, Pl, hcs, hb, hl, hm, hmm, _, hx⟩
  · simp at hcs
    obtain ⟨rfl, rfl, rfl⟩ := hcs
    exact fun k hk => absurd hk (by omega)
  · simp at hcs
    obtain ⟨rfl, rfl, rfl⟩ := hcs
    have hnm : n ≤ m := by rw [hmm]; split <;> omega
    have each : ∀ i, i < n → ∃ z0 z1 z2 : Int, w.cell? (a.add (i * 3)) = some (.int .i64 z0) ∧ w.cell? (a.add (i * 3 + 1)) = some (.int .i64 z1) ∧ w.cell? (a.add (i * 3 + 2)) = some (.int .i64 z2) := by
     intro i hi
     obtain ⟨cs', h1, h2⟩ := hx i (by omega)
     rw [cells48] at h1
     obtain ⟨_, hlen, hcell⟩ := World.cells?_some h1
     obtain ⟨xs, kk, _, _, _, hxl, hf⟩ := DataW.trod_struct Try.underlying48 h2
     match xs, hxl, cs', hlen with
     | [y0, y1, y2], _, [v0, v1, v2], _ =>
       have g0 := hf 0 _ rfl
       have g1 := hf 1 _ rfl
       have g2 := hf 2 _ rfl
       simp [cells3] at g0 g1 g2
       have e0 := hcell 0 (by omega)
       have e1 := hcell 1 (by omega)
       have e2 := hcell 2 (by omega)
       rw [add_add] at e0 e1 e2
       obtain ⟨z0, r0, _⟩ := DataW.trod_int Try.underlying3 g0
       obtain ⟨z1, r1, _⟩ := DataW.trod_int Try.underlying3 g1
       obtain ⟨z2, r2, _⟩ := DataW.trod_int Try.underlying3 g2
       simp at r0 r1 r2
       subst r0 r1 r2
       exact ⟨z0, z1, z2, by simpa using e0, by simpa using e1, by simpa using e2⟩
    intro i hi
    obtain ⟨x0, _, _, hx0, _, _⟩ := each 0 (by omega)
    have hs0 := World.cell?_spot hx0
    obtain ⟨b, o, s⟩ := a
    have hs : s = none := by simpa [Addr.add] using hs0
    subst hs
    have hb0 := World.block_lt_of_cell? w _ hx0
    have hadd : ∀ i, (⟨b, o, none⟩ : Addr).add i = ⟨b, o + i, none⟩ := fun i => by unfold Addr.add; split <;> simp_all
    obtain ⟨z0, z1, z2, e0, e1, e2⟩ := each i hi
    rw [hadd] at e0 e1 e2
    exact ⟨b, o, z0, z1, z2, rfl, by simpa [Addr.add] using hb0, e0, by simpa [Nat.add_assoc] using e1, by simpa [Nat.add_assoc] using e2⟩
end Go.Proofs.Ytkkbgohijokbhaa
