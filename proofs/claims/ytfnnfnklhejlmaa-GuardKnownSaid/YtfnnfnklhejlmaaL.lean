/- guard.Check of what is in: told. -/
import Derived.Test.YtfnnfnklhejlmaaK
namespace Go.Proofs.Ytfnnfnklhejlmaa
open Go.RowKit

set_option maxHeartbeats 1600000 in
theorem check_in_bad (A : Option Addr) (k c : Nat) (l : List Int) (w : World) (h : RB w A (k + 16) l) (h1 : 1 ≤ k) (h2 : k ≤ 1024) (p : Nat) (hp : p < k + 16) (hd : ∀ j, j < p → l[j]? = (inL k)[j]?) (hne : l[p]? ≠ (inL k)[p]?) :
    Calls Try.prog 13 #[.slice A (k + 16) c, .bool false] w fun e w' => e = .returned (.tuple #[.int .i64 (p : Int), .int .i64 180]) ∧ Below w.heap.size w w' := by
  have hmf := mkf
  have HH := hid h; have HD := hid hd; have HNE := hid hne
  clear h hd hne
  have e1 : ((k + 16 : Nat) : Int) - 16 = (k : Int) := by omega
  have HB0 := hid (below2 w (.cells #[.int .i64 0] 3) (.cells #[.int .i64 0] 23))
  have HV0 := hid (rv_new w 0 0)
  go_enter_defers Try.func13, Try.ntmps13
  go_wp2_with fail
  refine (in_any k _ h1 h2).mono ?_
  rintro e w1 ⟨v, rfl, hv, hb⟩
  obtain ⟨A1, N1, c1, rfl, n1, n2, n3, hr⟩ := hv.rb
  have HV1 := hid (HV0.out.below hb)
  have HB := hid (HB0.out.trans (hb.mono HB0.out.size))
  have HR := hid hr; have HBB := hid ((HH.out.below HB0.out).below hb)
  obtain rfl : N1 = k + 16 := by rw [n1, inL_length]
  have r1 := HV1.out.c1; have r2 := HV1.out.c2; have f1 := HV1.out.f1; have f2 := HV1.out.f2
  clear hv hb hr n1 n2 n3
  go_wp2_with fail
  refine (must_bad A A1 (k + 16) c (k + 16) c1 l (inL k) 0 p _ HBB.out HR.out (by omega) (Nat.le_refl _) (by omega) hp HD.out HNE.out).mono ?_
  rintro e w2 ⟨rfl, rfl⟩
  have e2 : ((0 + p : Nat) : Int) = (p : Int) := by omega
  go_wp2_with fail
  exact checkPanic (g := w.heap.size) (p := p) rfl rfl rfl HV1.out.c1 HV1.out.c2 HV1.out.f1 HV1.out.f2 ⟨rfl, (HB.out.setCell (Nat.le_refl _) _).setCell (by simp) _⟩
end Go.Proofs.Ytfnnfnklhejlmaa
