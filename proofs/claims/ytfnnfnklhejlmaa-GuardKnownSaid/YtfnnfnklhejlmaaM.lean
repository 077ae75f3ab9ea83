/- guard.Check of what is out. -/
import Derived.Test.YtfnnfnklhejlmaaL
namespace Go.Proofs.Ytfnnfnklhejlmaa
open Go.RowKit

theorem RB.take_ {w : World} {A : Option Addr} {n : Nat} {l : List Int} (h : RB w A n l) (k : Nat) (hk : k ≤ n) : RB w A k (l.take k) := by
  refine ⟨by rw [List.length_take, ← h.1]; omega, ?_⟩
  have := h.2.take_ k hk
  rw [Nat.mul_one] at this
  simpa [cellsU, List.map_take] using this
theorem RB.drop_ {w : World} {A : Option Addr} {n : Nat} {l : List Int} (h : RB w A n l) (k : Nat) (hk : k ≤ n) : RB w (if n = k then A else A.map (·.add (k * 1))) (n - k) (l.drop k) := by
  refine ⟨by rw [List.length_drop, h.1], ?_⟩
  have := h.2.drop_ k hk
  simpa [cellsU, List.map_drop] using this

set_option maxHeartbeats 1600000 in
theorem check_out_ok (A : Option Addr) (k c : Nat) (l : List Int) (w : World) (h : RB w A (k + 16) l) (hc : k + 16 ≤ c) (h1 : 1 ≤ k) (h2 : k ≤ 1024) (hd : ∀ j, j < 8 → l[j]? = some 204 ∧ l[8 + k + j]? = some 204) :
    Calls Try.prog 13 #[.slice A (k + 16) c, .bool true] w fun e w' => e = .returned (.tuple #[.int .i64 0, .int .i64 0]) ∧ Below w.heap.size w w' := by
  have hmf := mkf
  obtain ⟨b, o, rfl, -, -⟩ := h.2.2 (by omega)
  have HH := hid h; have HD := hid hd
  clear h hd
  have e1 : ((k + 16 : Nat) : Int) - 16 = (k : Int) := by omega
  have HB0 := hid (below2 w (.cells #[.int .i64 0] 3) (.cells #[.int .i64 0] 23))
  have HV0 := hid (rv_new w 0 0)
  go_enter_defers Try.func13, Try.ntmps13
  go_wp2_with fail
  refine (laid_any 0 204 0 _ (by omega)).mono ?_
  rintro e w1 ⟨v, rfl, hv, hb⟩
  obtain ⟨A1, N1, c1, rfl, n1, n2, n3, hr⟩ := hv.rb
  have HV1 := hid (HV0.out.below hb)
  have HB := hid (HB0.out.trans (hb.mono HB0.out.size))
  have HR := hid hr; have HBB := hid ((HH.out.below HB0.out).below hb)
  obtain rfl : N1 = 16 := by rw [n1, laidL_length]
  have r1 := HV1.out.c1; have r2 := HV1.out.c2; have f1 := HV1.out.f1; have f2 := HV1.out.f2
  clear hv hb hr n1 n2 n3
  go_wp2_with fail
  have hne1 : ¬ c = 8 + k := by omega
  have hk8 : IntKind.i64.wrap (8 + (k : Int)) = ((8 + k : Nat) : Int) := by rw [show (8 : Int) + (k : Int) = ((8 + k : Nat) : Int) by omega]; exact IntWalk.i64_in _ (by omega)
  refine (must_ok _ A1 8 c 16 c1 (l.take 8) (laidL 0 204 0) 0 _ (HBB.out.take_ 8 (by omega)) HR.out (by omega) (by omega) (fun j hj => ?_)).mono ?_
  · rw [List.getElem?_take_of_lt hj, (HD.out j hj).1, laidL_get 0 204 0 j (by omega), if_pos (.inl hj)]
  rintro e w2 ⟨rfl, rfl⟩
  go_wp2_with fail
  have hdr : RB w2 (some ⟨b, o + (8 + k), none⟩) (k + 16 - (8 + k)) (l.drop (8 + k)) := by
    have := HBB.out.drop_ (8 + k) (by omega)
    rw [if_neg (by omega)] at this
    simpa [Addr.add] using this
  refine (must_ok _ A1 (k + 16 - (8 + k)) _ 16 c1 (l.drop (8 + k)) (laidL 0 204 0) _ _ hdr HR.out (by omega) (by omega) (fun j hj => ?_)).mono ?_
  · rw [List.getElem?_drop, (HD.out j (by omega)).2, laidL_get 0 204 0 j (by omega), if_pos (.inl (by omega))]
  rintro e w3 ⟨rfl, rfl⟩
  clear hdr
  go_wp2_with fail
  have HE := HV1.out.set 0 0
  exact checkOk (g := w.heap.size) (i := 0) (e := 0) rfl rfl rfl HE.c1 HE.c2 ⟨rfl, (HB.out.setCell (Nat.le_refl _) _).setCell (by simp) _⟩
end Go.Proofs.Ytfnnfnklhejlmaa
