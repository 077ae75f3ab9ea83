/- GraceEnds as a call, at the calls that GraceKnown hands it. -/
import Derived.Test.YtkkbgohijokbhaaKa
namespace Go.Proofs.Ytkkbgohijokbhaa
open Go.RowKit

namespace Gr
theorem lastAt_append (l : List Rec) (x : Rec) : ∀ last, lastAt last (l ++ [x]) = x.2 := by
  induction l with
  | nil => intro last; rfl
  | cons y l ih => intro last; exact ih y.2
def manyF (j : Nat) : Rec := ((j : Int), if j = 0 then 1 else 2)
def manyR (n : Nat) : List Rec := (List.range n).map manyF
theorem manyR_succ (n : Nat) : manyR (n + 1) = manyR n ++ [manyF n] := by simp [manyR, List.range_succ]
theorem manyR_chk (n : Nat) (hn : n ≤ 1000) : chk 1 (manyR n) = true := by
  induction n with
  | zero => rfl
  | succ n ih =>
    rw [manyR_succ, chk_append, ih (by omega), Bool.true_and]
    have h1 : lastAt 1 (manyR n) ≤ (manyF n).2 := by
      cases n with
      | zero => simp [manyR, lastAt, manyF]
      | succ m =>
        rw [manyR_succ, lastAt_append]
        unfold manyF
        dsimp only
        rw [if_neg (show ¬ m + 1 = 0 by omega)]
        split <;> omega
    have h2 : (manyF n).2 ≤ 2 := by unfold manyF; dsimp only; split <;> omega
    have h3 : (manyF n).1 = n := rfl
    simp only [chk, Bool.and_true]
    rw [okRec_iff]
    omega
theorem manyR_check (n : Nat) (hn : n ≤ 256) : check (manyR n) = 0 := check_zero.2 ⟨by simp [manyR]; exact hn, manyR_chk n (by omega)⟩
/-- the machine of three behind so many calls -/
def many (n : Nat) : St := { deep := [0, 0, 0], rows := [manyR n, [], []], ended := 0, going := decide (0 < n), needs := [decide (0 < n), decide (0 < n), decide (0 < n)] }
theorem many_zero : many 0 = new 3 := rfl
theorem many_succ (n : Nat) (hn : n < 200) : (many n).call 0 n = (many (n + 1), 0) := by
  have hr : (many n).row 0 = manyR n := rfl
  have hadd : add (manyR n) ((n : Int), (many n).callAt) = (manyR (n + 1), 0) := by
    have hx : ((n : Int), (many n).callAt) = manyF n := by
      unfold manyF St.callAt many
      dsimp only
      by_cases h0 : n = 0
      · subst h0; rfl
      · rw [if_neg h0, if_pos (decide_eq_true (by omega))]; rfl
    rw [hx]
    unfold add
    have h1 : (manyR n).length = n := by simp [manyR]
    rw [if_neg (by rw [manyR_check n (by omega)]; simp), if_neg (by omega), ← manyR_succ, if_neg (by rw [manyR_check (n + 1) (by omega)]; simp)]
  have hh : (many n).has 0 = true := rfl
  have hl : ((many n).row 0).length = n := by rw [hr]; simp [manyR]
  unfold St.call
  rw [if_pos hh, if_neg (by omega), if_neg (by rw [hl]; omega)]
  dsimp only
  rw [hr, hadd]
  simp only [if_true]
  unfold many St.begin St.cpus
  by_cases h0 : n = 0
  · subst h0; rfl
  · have h1 : decide (0 < n) = true := decide_eq_true (by omega)
    have h2 : decide (0 < n + 1) = true := decide_eq_true (by omega)
    simp [h1]
theorem many_ok (n : Nat) (hn : n ≤ 200) : Ok (many n) 0 := by
  induction n with
  | zero => rw [many_zero]; exact Ok.new_ 3 (by decide) (by decide)
  | succ n ih =>
    have h1 := (ih (by omega)).call_ 0 n
    rw [many_succ n (by omega)] at h1
    exact h1
end Gr

namespace En
open Gr
def k0 := many 200
def k1 := (k0.quiet 0).1
def k2 := (k1.quiet 1).1
def k3 := (k2.quiet 2).1
def k4 := (k3.quiet 0).1
def k5 := (k4.quiet 1).1
def k6 := (k5.quiet 2).1
def p1 := (k6.poll 0).1
def p2 := (p1.poll 1).1
def p3 := (p2.poll 2).1
def ids := (k6.poll 0).2.1
theorem e1 : k0.quiet 0 = (k1, 0) := Prod.ext rfl (by decide +kernel)
theorem e2 : k1.quiet 1 = (k2, 0) := Prod.ext rfl (by decide +kernel)
theorem e3 : k2.quiet 2 = (k3, 0) := Prod.ext rfl (by decide +kernel)
theorem e4 : k3.quiet 0 = (k4, 0) := Prod.ext rfl (by decide +kernel)
theorem e5 : k4.quiet 1 = (k5, 0) := Prod.ext rfl (by decide +kernel)
theorem e6 : k5.quiet 2 = (k6, 0) := Prod.ext rfl (by decide +kernel)
theorem eta3 {r : St × List Int × Int} (h : r.2.2 = 0) : r = (r.1, r.2.1, 0) := by
  obtain ⟨a, b, c⟩ := r
  subst h
  rfl
theorem eta2 {r : St × List Int × Int} {y : List Int × Int} (h : r.2 = y) : r = (r.1, y) := by
  obtain ⟨a, b⟩ := r
  subst h
  rfl
theorem f1a : (k6.poll 0).2.2 = 0 := by decide +kernel
theorem f2a : (p1.poll 1).2 = ([], 0) := by decide +kernel
theorem f3a : (p2.poll 2).2 = ([], 0) := by decide +kernel
theorem f1 : k6.poll 0 = (p1, ids, 0) := by unfold p1 ids; exact eta3 f1a
theorem f2 : p1.poll 1 = (p2, [], 0) := by unfold p2; exact eta2 f2a
theorem f3 : p2.poll 2 = (p3, [], 0) := by unfold p3; exact eta2 f3a
theorem idl : ids.length = 200 := by decide +kernel
theorem g6 : k6.going = false := by decide +kernel
theorem o0 : Ok k0 0 := many_ok 200 (Nat.le_refl _)
theorem o1 : Ok k1 1 := o0.quiet_ _
theorem o2 : Ok k2 2 := o1.quiet_ _
theorem o3 : Ok k3 3 := o2.quiet_ _
theorem o4 : Ok k4 4 := o3.quiet_ _
theorem o5 : Ok k5 5 := o4.quiet_ _
theorem o6 : Ok k6 6 := o5.quiet_ _
theorem u1 : Ok p1 6 := by unfold p1; exact o6.poll_ 0
theorem u2 : Ok p2 6 := by unfold p2; exact u1.poll_ 1
theorem u3 : Ok p3 6 := by unfold p3; exact u2.poll_ 2
theorem w1 : waitsOf p1 0 = 0 := by decide +kernel
theorem w2 : waitsOf p2 1 = 0 := by decide +kernel
theorem w3 : waitsOf p3 2 = 0 := by decide +kernel
theorem d0 (m : Nat) (h : m < 3) : depthOf k0 (m : Int) = 0 := by
  rcases three h with rfl | rfl | rfl <;> decide +kernel
end En
end Go.Proofs.Ytkkbgohijokbhaa
