/- guard.Check of what is in: the walks. -/
import Derived.Test.YtfnnfnklhejlmaaJ
namespace Go.Proofs.Ytfnnfnklhejlmaa
open Go.RowKit

/-- Check's two named results in memory -/
structure RV (w : World) (g : Nat) (x y : Int) : Prop where
  b1 : Blk w g 3 #[.int .i64 x]
  b2 : Blk w (g + 1) 23 #[.int .i64 y]
section
variable {w w' : World} {g : Nat} {x y : Int}
theorem RV.c1 (h : RV w g x y) : w.cell? ⟨g, 0, none⟩ = some (.int .i64 x) := (h.b1.cell 0).trans rfl
theorem RV.c2 (h : RV w g x y) : w.cell? ⟨g + 1, 0, none⟩ = some (.int .i64 y) := (h.b2.cell 0).trans rfl
theorem RV.f1 (h : RV w g x y) : w.frozen? ⟨g, 0, none⟩ = false := h.b1.frozen 0
theorem RV.f2 (h : RV w g x y) : w.frozen? ⟨g + 1, 0, none⟩ = false := h.b2.frozen 0
theorem RV.below (h : RV w g x y) (hb : Below w.heap.size w w') : RV w' g x y := ⟨h.b1.below hb h.b1.lt, h.b2.below hb h.b2.lt⟩
theorem RV.set (h : RV w g x y) (p q : Int) : RV ((w.setCell ⟨g, 0, none⟩ (.int .i64 p)).setCell ⟨g + 1, 0, none⟩ (.int .i64 q)) g p q :=
  ⟨(h.b1.set_ 0 (.int .i64 p)).far (p := ⟨g + 1, 0, none⟩) (by simp) _, (h.b2.far (p := ⟨g, 0, none⟩) (by simp) (.int .i64 p)).set_ 0 (.int .i64 q)⟩
end
theorem rv_new (w : World) (x y : Int) : RV ((w.alloc (.cells #[.int .i64 x] 3)).alloc (.cells #[.int .i64 y] 23)) w.heap.size x y := by
  refine ⟨(Blk.new w 3 _).alloc _, ?_⟩
  have := Blk.new (w.alloc (.cells #[.int .i64 x] 3)) 23 #[.int .i64 y]
  simpa using this

set_option maxHeartbeats 1600000 in
theorem check_in_ok (A : Option Addr) (k c : Nat) (l : List Int) (w : World) (h : RB w A (k + 16) l) (h1 : 1 ≤ k) (h2 : k ≤ 1024) (hd : l = inL k) :
    Calls Try.prog 13 #[.slice A (k + 16) c, .bool false] w fun e w' => e = .returned (.tuple #[.int .i64 0, .int .i64 0]) ∧ Below w.heap.size w w' := by
  have hmf := mkf
  have HH := hid h; have HD := hid hd
  clear h hd
  have e1 : ((k + 16 : Nat) : Int) - 16 = (k : Int) := by omega
  have HB0 := hid (below2 w (.cells #[.int .i64 0] 3) (.cells #[.int .i64 0] 23))
  have HV0 := hid (rv_new w 0 0)
  go_enter_defers Try.func13, Try.ntmps13
  go_wp2_with fail
  refine (in_any k _ h1 h2).mono ?_
  rintro e w1 ⟨v, rfl, hv, hb⟩
  obtain ⟨A1, N1, c1, rfl, n1, n2, n3, hr⟩ := hv.rb
  have HV1 := hid (HV0.out.below hb)
  have HB := hid (HB0.out.trans (hb.mono HB0.out.size))
  have HR := hid hr; have HBB := hid ((HH.out.below HB0.out).below hb)
  obtain rfl : N1 = k + 16 := by rw [n1, inL_length]
  have r1 := HV1.out.c1; have r2 := HV1.out.c2; have f1 := HV1.out.f1; have f2 := HV1.out.f2
  clear hv hb hr n1 n2 n3
  go_wp2_with fail
  refine (must_ok A A1 (k + 16) c (k + 16) c1 l (inL k) 0 _ HBB.out HR.out (by omega) (Nat.le_refl _) (fun j _ => by rw [HD.out])).mono ?_
  rintro e w2 ⟨rfl, rfl⟩
  go_wp2_with fail
  have HE := HV1.out.set 0 0
  exact checkOk (g := w.heap.size) (i := 0) (e := 0) rfl rfl rfl HE.c1 HE.c2 ⟨rfl, (HB.out.setCell (Nat.le_refl _) _).setCell (by simp) _⟩
end Go.Proofs.Ytfnnfnklhejlmaa
