/- wainscotlaw10: polls, stands, works. -/
import Derived.Test.YtkkbgohijokbhaaSc
namespace Go.Proofs.Ytkkbgohijokbhaa
open Go.RowKit

/-- one machine that was made since the world w0 -/
structure Solo (w0 w : World) (g : Nat) (s : Gr.St) : Prop where
  G : GRep w g s
  B : Below w0.heap.size w0 w
  new : w0.heap.size ≤ g
theorem Solo.step {w0 w w' : World} {g : Nat} {s s' : Gr.St} (h : Solo w0 w g s) (hG : GRep w' g s') (hF : Fr [g] w w') : Solo w0 w' g s' :=
  ⟨hG, h.B.trans (hF.below h.B.size (fun k hk => by simp at hk; subst hk; exact h.new)), h.new⟩
theorem Solo.below {w0 w w' : World} {g : Nat} {s : Gr.St} (h : Solo w0 w g s) (hb : Below w.heap.size w w') : Solo w0 w' g s := ⟨h.G.below hb, h.B.trans (hb.mono h.B.size), h.new⟩
theorem Solo.drewN {w0 w : World} {g : Nat} {s : Gr.St} (h : Solo w0 w g s) (n : Nat) : Solo w0 (w.drewN n) g s := ⟨h.G, below_drewN h.B n, h.new⟩

/-- behind a call of one machine -/
def Sol (w0 : World) (g : Nat) (s : Gr.St) (E : Int) (e : Ending) (w' : World) : Prop := e = .returned (.int .i64 E) ∧ Hid (Solo w0 w' g s)
section
variable {w0 w : World} {g : Nat} {s s' : Gr.St} {E B c i : Int}
theorem sol_of (h : Solo w0 w g s) {x : Gr.St × Int} (hx : x = (s', E)) {e : Ending} {w' : World} (hg : Goes w g x e w') : Sol w0 g s' E e w' := by
  subst hx
  obtain ⟨he, hG, hF⟩ := hg
  exact ⟨he, hid (h.step hG hF)⟩
theorem lock_sol (h : Solo w0 w g s) (ho : Gr.Ok s B) (hx : s.lock c = (s', E)) : Calls Try.prog 31 #[.pointer (some ⟨g, 0, none⟩), .int .i64 c] w (Sol w0 g s' E) := (lock_any g s B c w h.G ho).mono fun _ _ h' => sol_of h hx h'
theorem unlock_sol (h : Solo w0 w g s) (ho : Gr.Ok s B) (hx : s.unlock c = (s', E)) : Calls Try.prog 32 #[.pointer (some ⟨g, 0, none⟩), .int .i64 c] w (Sol w0 g s' E) := (unlock_any g s B c w h.G ho).mono fun _ _ h' => sol_of h hx h'
theorem quiet_sol (h : Solo w0 w g s) (ho : Gr.Ok s B) (hB : B ≤ 1000000) (hx : s.quiet c = (s', E)) : Calls Try.prog 33 #[.pointer (some ⟨g, 0, none⟩), .int .i64 c] w (Sol w0 g s' E) := (quiet_any g s B c w h.G ho hB).mono fun _ _ h' => sol_of h hx h'
theorem call_sol (h : Solo w0 w g s) (ho : Gr.Ok s B) (hB : B ≤ 1000000) (hx : s.call c i = (s', E)) : Calls Try.prog 34 #[.pointer (some ⟨g, 0, none⟩), .int .i64 c, .int .i64 i] w (Sol w0 g s' E) := (call_any g s B c i w h.G ho hB).mono fun _ _ h' => sol_of h hx h'
/-- behind Poll -/
def PollSol (w0 w : World) (g : Nat) (s : Gr.St) (ids : List Int) (E : Int) (e : Ending) (w' : World) : Prop :=
  ∃ A N cp, e = .returned (.tuple #[.slice A N cp, .int .i64 E]) ∧ Hid (N ≤ maxLen) ∧ Hid (IsInts w' w.heap.size (.slice A N cp) ids) ∧ Hid (RI w' A N ids) ∧ Hid (Solo w0 w' g s) ∧ Hid (Fr [g] w w')
theorem poll_sol {ids : List Int} (h : Solo w0 w g s) (ho : Gr.Ok s B) (hx : s.poll c = (s', ids, E)) : Calls Try.prog 29 #[.pointer (some ⟨g, 0, none⟩), .int .i64 c] w (PollSol w0 w g s' ids E) := (poll_any g s B c w h.G ho).mono fun e w' h' => by
  rw [hx] at h'
  obtain ⟨v, he, hI, hG, hF⟩ := h'
  obtain ⟨A, N, cp, rfl, h1, h2, h3, h4⟩ := hI.ri
  exact ⟨A, N, cp, he, hid (Nat.le_trans h2 h3), hid hI, hid h4, hid (h.step hG hF), hid hF⟩
end
theorem RI.fr {w w' : World} {n : Nat} {A : Option Addr} {l : List Int} {S : List Nat} (h : RI w A n l) (hf : Fr S w w') (hS : ∀ b o, A = some ⟨b, o, none⟩ → b ∉ S) : RI w' A n l :=
  ⟨h.1, h.2.keep hf.size fun b o e hb => hf.block b hb (hS b o e)⟩

set_option maxHeartbeats 800000 in
theorem polls_sol {w0 w : World} {g : Nat} {s s' : Gr.St} {B c : Int} {ids : List Int} {A : Option Addr} {N cp : Nat} (h : Solo w0 w g s) (ho : Gr.Ok s B) (hx : s.poll c = (s', ids, 0)) (hr : RI w A N ids) (hN : N ≤ maxLen) (hA : ∀ b o, A = some ⟨b, o, none⟩ → b ≠ g) :
    Calls Try.prog 51 #[.pointer (some ⟨g, 0, none⟩), .int .i64 c, .slice A N cp] w fun e w' => e = .returned (.bool true) ∧ Hid (Solo w0 w' g s') := by
  have H := hid h; have HO := hid ho; have HX := hid hx; have HR := hid hr; have HN := hid hN; have HA := hid hA
  clear h ho hx hr hN hA
  go_enter Try.func51, Try.ntmps51
  go_wp2_with fail
  refine (poll_sol H.out HO.out HX.out).mono ?_
  rintro e w1 ⟨A1, N1, c1, rfl, HN1, HI1, HR1, HP1, HF1⟩
  have HR2 := hid (HR.out.fr HF1.out (fun b o e hm => HA.out b o e (by simpa using hm)))
  go_wp2_with fail
  refine (eqints_at true A1 A N1 c1 N cp _ _ _ HR1.out HR2.out HN1.out HN.out (by simp)).mono ?_
  rintro e w4 ⟨rfl, hb4⟩
  have HB4 := hid hb4; clear hb4
  go_wp2_with fail
  go_ret
  exact ⟨rfl, hid (HP1.out.below HB4.out)⟩

set_option maxHeartbeats 800000 in
theorem stands_sol {w0 w : World} {g : Nat} {s : Gr.St} {B : Int} {en : Int} {gg : Bool} (h : Solo w0 w g s) (ho : Gr.Ok s B) (he : s.ended = en) (hg : s.going = gg) :
    Calls Try.prog 52 #[.pointer (some ⟨g, 0, none⟩), .int .i64 en, .bool gg] w fun e w' => e = .returned (.bool true) ∧ Hid (Solo w0 w' g s) := by
  have H := hid h; have HO := hid ho; have HE := hid he; have HG := hid hg
  clear h ho he hg
  cases gg
  all_goals
    go_enter Try.func52, Try.ntmps52
    go_wp2_with fail
    refine (done_any g s B _ H.out.G HO.out).mono ?_
    rintro e w1 ⟨rfl, n1, rfl⟩
    rw [HE.out, HG.out]
    go_wp2_with fail
    go_ret
    exact ⟨rfl, hid (H.out.drewN n1)⟩

namespace Wk
def k0 := Gr.new 2
def k1 := (k0.lock 0).1
def k2 := (k1.call 1 7).1
def k3 := (k2.quiet 1).1
def k4 := (k3.quiet 0).1
def k5 := (k4.poll 1).1
def k6 := (k5.unlock 0).1
def k7 := (k6.poll 1).1
def k8 := (k7.quiet 0).1
def k9 := (k8.poll 1).1
def k10 := (k9.call 0 8).1
def k11 := (k10.call 0 9).1
def k12 := (k11.quiet 0).1
def k13 := (k12.quiet 1).1
def k14 := (k13.poll 0).1
theorem e1 : k0.lock 0 = (k1, 0) := Prod.ext rfl (by decide +kernel)
theorem e2 : k1.call 1 7 = (k2, 0) := Prod.ext rfl (by decide +kernel)
theorem e3 : k2.quiet 1 = (k3, 0) := Prod.ext rfl (by decide +kernel)
theorem e4 : k3.quiet 0 = (k4, 292) := Prod.ext rfl (by decide +kernel)
theorem e5 : k4.poll 1 = (k5, [], 0) := Prod.ext rfl (by decide +kernel)
theorem e6 : k5.unlock 0 = (k6, 0) := Prod.ext rfl (by decide +kernel)
theorem e7 : k6.poll 1 = (k7, [], 0) := Prod.ext rfl (by decide +kernel)
theorem e8 : k7.quiet 0 = (k8, 0) := Prod.ext rfl (by decide +kernel)
theorem n8 : k8.ended = 1 := by decide +kernel
theorem g8 : k8.going = false := by decide +kernel
theorem e9 : k8.poll 1 = (k9, [7], 0) := Prod.ext rfl (by decide +kernel)
theorem e10 : k9.call 0 8 = (k10, 0) := Prod.ext rfl (by decide +kernel)
theorem e11 : k10.call 0 9 = (k11, 0) := Prod.ext rfl (by decide +kernel)
theorem e12 : k11.quiet 0 = (k12, 0) := Prod.ext rfl (by decide +kernel)
theorem e13 : k12.quiet 1 = (k13, 0) := Prod.ext rfl (by decide +kernel)
theorem n13 : k13.ended = 2 := by decide +kernel
theorem g13 : k13.going = true := by decide +kernel
theorem e14 : k13.poll 0 = (k14, [8], 0) := Prod.ext rfl (by decide +kernel)
theorem o0 : Gr.Ok k0 0 := Gr.Ok.new_ 2 (by decide) (by decide)
theorem o1 : Gr.Ok k1 0 := o0.lock_ _
theorem o2 : Gr.Ok k2 0 := o1.call_ _ _
theorem o3 : Gr.Ok k3 1 := o2.quiet_ _
theorem o4 : Gr.Ok k4 2 := o3.quiet_ _
theorem o5 : Gr.Ok k5 2 := o4.poll_ _
theorem o6 : Gr.Ok k6 2 := o5.unlock_ _
theorem o7 : Gr.Ok k7 2 := o6.poll_ _
theorem o8 : Gr.Ok k8 3 := o7.quiet_ _
theorem o9 : Gr.Ok k9 3 := o8.poll_ _
theorem o10 : Gr.Ok k10 3 := o9.call_ _ _
theorem o11 : Gr.Ok k11 3 := o10.call_ _ _
theorem o12 : Gr.Ok k12 4 := o11.quiet_ _
theorem o13 : Gr.Ok k13 5 := o12.quiet_ _
end Wk
open Wk

set_option maxHeartbeats 3200000 in
theorem works10 (w : World) : Calls Try.prog 28 #[] w fun e w' => e = .returned (.bool true) ∧ Below w.heap.size w w' := by
  go_enter Try.func28, Try.ntmps28
  go_wp2_with fail
  refine (new_ok 2 (by decide) (by decide) w).mono ?_
  rintro e w1 ⟨g, rfl, hg, hG, hB⟩
  have HP0 : Hid (Solo w w1 g k0) := hid ⟨hG, hB, hg⟩
  clear hG hB hg
  go_wp2_with fail
  refine (lock_sol HP0.out o0 e1).mono ?_
  rintro e w2 ⟨rfl, HP1⟩
  go_wp2_with fail
  refine (call_sol HP1.out o1 (by decide) e2).mono ?_
  rintro e w3 ⟨rfl, HP2⟩
  go_wp2_with fail
  refine (quiet_sol HP2.out o2 (by decide) e3).mono ?_
  rintro e w4 ⟨rfl, HP3⟩
  go_wp2_with fail
  refine (quiet_sol HP3.out o3 (by decide) e4).mono ?_
  rintro e w5 ⟨rfl, HP4⟩
  go_wp2_with fail
  refine (polls_sol HP4.out o4 e5 (RI.nil _ _) (Nat.zero_le _) (fun b o e => by cases e)).mono ?_
  rintro e w6 ⟨rfl, HP5⟩
  go_wp2_with fail
  refine (unlock_sol HP5.out o5 e6).mono ?_
  rintro e w7 ⟨rfl, HP6⟩
  go_wp2_with fail
  refine (polls_sol HP6.out o6 e7 (RI.nil _ _) (Nat.zero_le _) (fun b o e => by cases e)).mono ?_
  rintro e w8 ⟨rfl, HP7⟩
  go_wp2_with fail
  refine (quiet_sol HP7.out o7 (by decide) e8).mono ?_
  rintro e w9 ⟨rfl, HP8⟩
  go_wp2_with fail
  refine (stands_sol HP8.out o8 n8 g8).mono ?_
  rintro e w10 ⟨rfl, HP8b⟩
  go_wp2_with fail
  refine (polls_sol (HP8b.out.below ((Below.refl _ _).alloc (Nat.le_refl _) _)) o8 e9 (ri_cells _ w10.heap.size [7] (heap_alloc_new w10 _)) (by unfold maxLen; simp) (fun b o e => by cases e; exact Nat.ne_of_gt HP8b.out.G.lt)).mono ?_
  rintro e w11 ⟨rfl, HP9⟩
  go_wp2_with fail
  refine (call_sol HP9.out o9 (by decide) e10).mono ?_
  rintro e w12 ⟨rfl, HP10⟩
  go_wp2_with fail
  refine (call_sol HP10.out o10 (by decide) e11).mono ?_
  rintro e w13 ⟨rfl, HP11⟩
  go_wp2_with fail
  refine (quiet_sol HP11.out o11 (by decide) e12).mono ?_
  rintro e w14 ⟨rfl, HP12⟩
  go_wp2_with fail
  refine (quiet_sol HP12.out o12 (by decide) e13).mono ?_
  rintro e w15 ⟨rfl, HP13⟩
  go_wp2_with fail
  refine (stands_sol HP13.out o13 n13 g13).mono ?_
  rintro e w16 ⟨rfl, HP13b⟩
  go_wp2_with fail
  refine (polls_sol (HP13b.out.below ((Below.refl _ _).alloc (Nat.le_refl _) _)) o13 e14 (ri_cells _ w16.heap.size [8] (heap_alloc_new w16 _)) (by unfold maxLen; simp) (fun b o e => by cases e; exact Nat.ne_of_gt HP13b.out.G.lt)).mono ?_
  rintro e w17 ⟨rfl, HP14⟩
  go_wp2_with fail
  go_ret
  exact ⟨rfl, HP14.out.B⟩
end Go.Proofs.Ytkkbgohijokbhaa
