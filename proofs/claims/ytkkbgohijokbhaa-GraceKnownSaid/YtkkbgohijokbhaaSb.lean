/- wainscotlaw10.step. -/
import Derived.Test.YtkkbgohijokbhaaSa
namespace Go.Proofs.Ytkkbgohijokbhaa
open Go.RowKit

set_option maxHeartbeats 1600000 in
theorem step0 (w0 w : World) (g m d r q : Nat) (s : Gr.St) (E o c i : Int) (h : Play w0 w g m d r q s s) (ho : Gr.Ok s E) (hE : E ≤ 1000000) (h5 : o % 5 = 0) :
    Calls Try.prog 26 #[.pointer (some ⟨g, 0, none⟩), .pointer (some ⟨m, 0, none⟩), .agg #[.int .i64 o, .int .i64 c, .int .i64 i]] w (Steps w0 g m d r q (stepTo s o c i)) := by
  have HO := hid ho
  have HS := hid (show stepTo s o c i = (s.lock c).1 by unfold stepTo; rw [if_pos h5])
  have hb0 : Below w.heap.size w (w.alloc (.cells #[.int .i64 o, .int .i64 c, .int .i64 i] 48)) := (Below.refl _ _).alloc (Nat.le_refl _) _
  have HP := hid (h.below hb0)
  have HB : Hid (Box (w.alloc (.cells #[.int .i64 o, .int .i64 c, .int .i64 i] 48)) w.heap.size o c i) := hid (Blk.new w 48 _)
  have H5 := hid h5
  have HE := hid hE
  clear h ho h5 hb0 hE
  go_enter Try.func26, Try.ntmps26
  go_wp2_with fail
  refine (bring_any o 5 (by decide) (by decide) _).mono ?_
  rintro e w1 ⟨rfl, rfl⟩
  rw [H5.out]
  go_wp2_with fail
  generalize (w.alloc (.cells #[.int .i64 o, .int .i64 c, .int .i64 i] 48)) = w1 at HP HB ⊢
  have hS0 := And.intro HB.out.c1 HB.out.c2
  go_region_held3 (fun W => W.cell? ⟨w.heap.size, 1, none⟩ = some (.int .i64 c) ∧ W.cell? ⟨w.heap.size, 2, none⟩ = some (.int .i64 i)) (first | exact hS0 | exact hS1 | exact hS2)
      (first
        | (go_at_call 31; refine (lock_play (w0 := w0) (b := w.heap.size) (o := o) (i := i) (m := m) (d := d) (r := r) (q := q) (s := s) (t := s) (E := E) ?_ ?_ HO.out).mono ?_; exact HP.out.drew; exact HB.out; rintro e w2 ⟨rfl, HP2, HB2, hS1⟩)
        | (go_at_call 42; refine (rlock_play (w0 := w0) (b := w.heap.size) (o := o) (i := i) (g := g) (d := d) (r := r) (q := q) (s := (s.lock c).1) (t := s) (E := E) ?_ ?_ HO.out).mono ?_; exact HP2.out; exact HB2.out; rintro e w3 ⟨rfl, HP3, HB3, hS2⟩))
  go_wp2_with fail
  go_ret
  exact ⟨by simp, by rw [HS.out]; exact HP3.out⟩

set_option maxHeartbeats 1600000 in
theorem step1 (w0 w : World) (g m d r q : Nat) (s : Gr.St) (E o c i : Int) (h : Play w0 w g m d r q s s) (ho : Gr.Ok s E) (hE : E ≤ 1000000) (h5 : o % 5 = 1) :
    Calls Try.prog 26 #[.pointer (some ⟨g, 0, none⟩), .pointer (some ⟨m, 0, none⟩), .agg #[.int .i64 o, .int .i64 c, .int .i64 i]] w (Steps w0 g m d r q (stepTo s o c i)) := by
  have HO := hid ho
  have HS := hid (show stepTo s o c i = (s.unlock c).1 by unfold stepTo; rw [if_neg (by omega), if_pos h5])
  have hb0 : Below w.heap.size w (w.alloc (.cells #[.int .i64 o, .int .i64 c, .int .i64 i] 48)) := (Below.refl _ _).alloc (Nat.le_refl _) _
  have HP := hid (h.below hb0)
  have HB : Hid (Box (w.alloc (.cells #[.int .i64 o, .int .i64 c, .int .i64 i] 48)) w.heap.size o c i) := hid (Blk.new w 48 _)
  have H5 := hid h5
  have HE := hid hE
  clear h ho h5 hb0 hE
  go_enter Try.func26, Try.ntmps26
  go_wp2_with fail
  refine (bring_any o 5 (by decide) (by decide) _).mono ?_
  rintro e w1 ⟨rfl, rfl⟩
  rw [H5.out]
  go_wp2_with fail
  generalize (w.alloc (.cells #[.int .i64 o, .int .i64 c, .int .i64 i] 48)) = w1 at HP HB ⊢
  have hS0 := And.intro HB.out.c1 HB.out.c2
  go_region_held3 (fun W => W.cell? ⟨w.heap.size, 1, none⟩ = some (.int .i64 c) ∧ W.cell? ⟨w.heap.size, 2, none⟩ = some (.int .i64 i)) (first | exact hS0 | exact hS1 | exact hS2)
      (first
        | (go_at_call 32; refine (unlock_play (w0 := w0) (b := w.heap.size) (o := o) (i := i) (m := m) (d := d) (r := r) (q := q) (s := s) (t := s) (E := E) ?_ ?_ HO.out).mono ?_; exact HP.out.drew; exact HB.out; rintro e w2 ⟨rfl, HP2, HB2, hS1⟩)
        | (go_at_call 43; refine (runlock_play (w0 := w0) (b := w.heap.size) (o := o) (i := i) (g := g) (d := d) (r := r) (q := q) (s := (s.unlock c).1) (t := s) (E := E) ?_ ?_ HO.out).mono ?_; exact HP2.out; exact HB2.out; rintro e w3 ⟨rfl, HP3, HB3, hS2⟩))
  go_wp2_with fail
  go_ret
  exact ⟨by simp, by rw [HS.out]; exact HP3.out⟩

set_option maxHeartbeats 1600000 in
theorem step2 (w0 w : World) (g m d r q : Nat) (s : Gr.St) (E o c i : Int) (h : Play w0 w g m d r q s s) (ho : Gr.Ok s E) (hE : E ≤ 1000000) (h5 : o % 5 = 2) :
    Calls Try.prog 26 #[.pointer (some ⟨g, 0, none⟩), .pointer (some ⟨m, 0, none⟩), .agg #[.int .i64 o, .int .i64 c, .int .i64 i]] w (Steps w0 g m d r q (stepTo s o c i)) := by
  have HO := hid ho
  have HS := hid (show stepTo s o c i = (s.quiet c).1 by unfold stepTo; rw [if_neg (by omega), if_neg (by omega), if_pos h5])
  have hb0 : Below w.heap.size w (w.alloc (.cells #[.int .i64 o, .int .i64 c, .int .i64 i] 48)) := (Below.refl _ _).alloc (Nat.le_refl _) _
  have HP := hid (h.below hb0)
  have HB : Hid (Box (w.alloc (.cells #[.int .i64 o, .int .i64 c, .int .i64 i] 48)) w.heap.size o c i) := hid (Blk.new w 48 _)
  have H5 := hid h5
  have HE := hid hE
  clear h ho h5 hb0 hE
  go_enter Try.func26, Try.ntmps26
  go_wp2_with fail
  refine (bring_any o 5 (by decide) (by decide) _).mono ?_
  rintro e w1 ⟨rfl, rfl⟩
  rw [H5.out]
  go_wp2_with fail
  generalize (w.alloc (.cells #[.int .i64 o, .int .i64 c, .int .i64 i] 48)) = w1 at HP HB ⊢
  have hS0 := And.intro HB.out.c1 HB.out.c2
  go_region_held3 (fun W => W.cell? ⟨w.heap.size, 1, none⟩ = some (.int .i64 c) ∧ W.cell? ⟨w.heap.size, 2, none⟩ = some (.int .i64 i)) (first | exact hS0 | exact hS1 | exact hS2)
      (first
        | (go_at_call 33; refine (quiet_play (w0 := w0) (b := w.heap.size) (o := o) (i := i) (m := m) (d := d) (r := r) (q := q) (s := s) (t := s) (E := E) ?_ ?_ HO.out HE.out).mono ?_; exact HP.out.drew; exact HB.out; rintro e w2 ⟨rfl, HP2, HB2, hS1⟩)
        | (go_at_call 44; refine (rquiet_play (w0 := w0) (b := w.heap.size) (o := o) (i := i) (g := g) (d := d) (r := r) (q := q) (s := (s.quiet c).1) (t := s) (E := E) ?_ ?_ HO.out HE.out).mono ?_; exact HP2.out; exact HB2.out; rintro e w3 ⟨rfl, HP3, HB3, hS2⟩))
  go_wp2_with fail
  go_ret
  exact ⟨by simp, by rw [HS.out]; exact HP3.out⟩

set_option maxHeartbeats 1600000 in
theorem step3 (w0 w : World) (g m d r q : Nat) (s : Gr.St) (E o c i : Int) (h : Play w0 w g m d r q s s) (ho : Gr.Ok s E) (hE : E ≤ 1000000) (h5 : o % 5 = 3) :
    Calls Try.prog 26 #[.pointer (some ⟨g, 0, none⟩), .pointer (some ⟨m, 0, none⟩), .agg #[.int .i64 o, .int .i64 c, .int .i64 i]] w (Steps w0 g m d r q (stepTo s o c i)) := by
  have HO := hid ho
  have HS := hid (show stepTo s o c i = (s.call c i).1 by unfold stepTo; rw [if_neg (by omega), if_neg (by omega), if_neg (by omega), if_pos h5])
  have hb0 : Below w.heap.size w (w.alloc (.cells #[.int .i64 o, .int .i64 c, .int .i64 i] 48)) := (Below.refl _ _).alloc (Nat.le_refl _) _
  have HP := hid (h.below hb0)
  have HB : Hid (Box (w.alloc (.cells #[.int .i64 o, .int .i64 c, .int .i64 i] 48)) w.heap.size o c i) := hid (Blk.new w 48 _)
  have H5 := hid h5
  have HE := hid hE
  clear h ho h5 hb0 hE
  go_enter Try.func26, Try.ntmps26
  go_wp2_with fail
  refine (bring_any o 5 (by decide) (by decide) _).mono ?_
  rintro e w1 ⟨rfl, rfl⟩
  rw [H5.out]
  go_wp2_with fail
  generalize (w.alloc (.cells #[.int .i64 o, .int .i64 c, .int .i64 i] 48)) = w1 at HP HB ⊢
  have hS0 := And.intro HB.out.c1 HB.out.c2
  go_region_held3 (fun W => W.cell? ⟨w.heap.size, 1, none⟩ = some (.int .i64 c) ∧ W.cell? ⟨w.heap.size, 2, none⟩ = some (.int .i64 i)) (first | exact hS0 | exact hS1 | exact hS2)
      (first
        | (go_at_call 34; refine (call_play (w0 := w0) (b := w.heap.size) (o := o) (i := i) (m := m) (d := d) (r := r) (q := q) (s := s) (t := s) (E := E) ?_ ?_ HO.out HE.out).mono ?_; exact HP.out.drew; exact HB.out; rintro e w2 ⟨rfl, HP2, HB2, hS1⟩)
        | (go_at_call 45; refine (rcall_play (w0 := w0) (b := w.heap.size) (o := o) (i := i) (g := g) (d := d) (r := r) (q := q) (s := (s.call c i).1) (t := s) (E := E) ?_ ?_ HO.out HE.out).mono ?_; exact HP2.out; exact HB2.out; rintro e w3 ⟨rfl, HP3, HB3, hS2⟩))
  go_wp2_with fail
  go_ret
  exact ⟨by simp, by rw [HS.out]; exact HP3.out⟩

def PollPlays (w0 w : World) (b : Nat) (o c i : Int) (g m d r q : Nat) (s t : Gr.St) (ids : List Int) (E : Int) (e : Ending) (w' : World) : Prop :=
  ∃ A N cp, e = .returned (.tuple #[.slice A N cp, .int .i64 E]) ∧ Hid (N ≤ maxLen) ∧ Hid (IsInts w' w.heap.size (.slice A N cp) ids) ∧ Hid (Play w0 w' g m d r q s t) ∧ Hid (Box w' b o c i)
theorem poll_play {w0 w : World} {b : Nat} {o c i : Int} {g m d r q : Nat} {s t : Gr.St} {E : Int} (h : Play w0 w g m d r q s t) (hb : Box w b o c i) (ho : Gr.Ok s E) :
    Calls Try.prog 29 #[.pointer (some ⟨g, 0, none⟩), .int .i64 c] w (PollPlays w0 w b o c i g m d r q (s.poll c).1 t (s.poll c).2.1 (s.poll c).2.2) := (poll_any g s E c w h.G ho).mono fun e w' h' => by
  obtain ⟨v, he, hI, hG, hF⟩ := h'
  have hb' : Box w' b o c i := Blk.fr hb hF (fun b hb => by obtain ⟨t, cs, hc, rfl⟩ := h.G.types b hb; exact ⟨63, cs, hc, by decide⟩)
  obtain ⟨A, N, cp, rfl, h1, h2, h3, h4⟩ := hI.ri
  exact ⟨A, N, cp, he, hid (Nat.le_trans h2 h3), hid hI, hid (h.stepG hG hF), hid hb'⟩
theorem rpoll_play {w0 w : World} {b : Nat} {o c i : Int} {g m d r q : Nat} {s t : Gr.St} {E : Int} (h : Play w0 w g m d r q s t) (hb : Box w b o c i) (ho : Gr.Ok t E) :
    Calls Try.prog 46 #[.pointer (some ⟨m, 0, none⟩), .int .i64 c] w fun e w' => PollPlays w0 w b o c i g m d r q s (t.poll c).1 (t.poll c).2.1 (t.poll c).2.2 e w' ∧ Fr [m, d, r, q] w w' := (rpoll_any m d r q t E c w h.R ho).mono fun e w' h' => by
  obtain ⟨v, he, hI, hR, hF⟩ := h'
  have hb' : Box w' b o c i := Blk.fr hb hF (fun b hb => by obtain ⟨t, cs, hc, h1, h2, h3⟩ := h.R.types5 b hb; exact ⟨t, cs, hc, h3⟩)
  obtain ⟨A, N, cp, rfl, h1, h2, h3, h4⟩ := hI.ri
  exact ⟨⟨A, N, cp, he, hid (Nat.le_trans h2 h3), hid hI, hid (h.stepR hR hF), hid hb'⟩, hF⟩

set_option maxHeartbeats 1600000 in
theorem step4 (w0 w : World) (g m d r q : Nat) (s : Gr.St) (E o c i : Int) (h : Play w0 w g m d r q s s) (ho : Gr.Ok s E) (h5 : o % 5 = 4) :
    Calls Try.prog 26 #[.pointer (some ⟨g, 0, none⟩), .pointer (some ⟨m, 0, none⟩), .agg #[.int .i64 o, .int .i64 c, .int .i64 i]] w (Steps w0 g m d r q (stepTo s o c i)) := by
  have HO := hid ho
  have HS := hid (show stepTo s o c i = (s.poll c).1 by unfold stepTo; rw [if_neg (by omega), if_neg (by omega), if_neg (by omega), if_neg (by omega)])
  have hb0 : Below w.heap.size w (w.alloc (.cells #[.int .i64 o, .int .i64 c, .int .i64 i] 48)) := (Below.refl _ _).alloc (Nat.le_refl _) _
  have HP := hid (h.below hb0)
  have HB : Hid (Box (w.alloc (.cells #[.int .i64 o, .int .i64 c, .int .i64 i] 48)) w.heap.size o c i) := hid (Blk.new w 48 _)
  have H5 := hid h5
  obtain ⟨b, hb⟩ : ∃ b, b = w.heap.size := ⟨_, rfl⟩
  clear h ho h5 hb0
  go_enter Try.func26, Try.ntmps26
  go_wp2_with fail
  refine (bring_any o 5 (by decide) (by decide) _).mono ?_
  rintro e w1 ⟨rfl, rfl⟩
  rw [H5.out]
  rw [← hb] at HB
  simp only [← hb]
  generalize (w.alloc (.cells #[.int .i64 o, .int .i64 c, .int .i64 i] 48)) = w1 at HP HB ⊢
  have hc1 := HB.out.c1
  clear hb
  go_wp2_with fail
  refine (poll_play (w0 := w0) (b := b) (o := o) (i := i) (m := m) (d := d) (r := r) (q := q) (s := s) (t := s) (E := E) HP.out HB.out HO.out).mono ?_
  rintro e w2 ⟨A2, N2, c2, rfl, HN2, HI2, HP2, HB2⟩
  have hc2 := HB2.out.c1
  go_wp2_with fail
  refine (rpoll_play (w0 := w0) (b := b) (o := o) (i := i) (m := m) (d := d) (r := r) (q := q) (s := (s.poll c).1) (t := s) (E := E) HP2.out HB2.out HO.out).mono ?_
  rintro e w3 ⟨⟨A3, N3, c3, rfl, HN3, HI3, HP3, HB3⟩, hF⟩
  have hI2 : IsInts w3 w1.heap.size (.slice A2 N2 c2) (s.poll c).2.1 := ints_fr HI2.out hF HP.out.R.lts
  obtain ⟨A, N, cp, e1, -, -, -, hr2⟩ := hI2.ri
  obtain ⟨rfl, rfl, rfl⟩ : A2 = A ∧ N2 = N ∧ c2 = cp := by injection e1; exact ⟨by assumption, by assumption, by assumption⟩
  obtain ⟨A, N, cp, e1, -, -, -, hr3⟩ := HI3.out.ri
  obtain ⟨rfl, rfl, rfl⟩ : A3 = A ∧ N3 = N ∧ c3 = cp := by injection e1; exact ⟨by assumption, by assumption, by assumption⟩
  have HR2 := hid hr2; have HR3 := hid hr3
  clear hr2 hr3 e1 hc2 hc1
  go_wp2_with fail
  refine (eqints_at true A2 A3 N2 c2 N3 c3 _ _ _ HR2.out HR3.out HN2.out HN3.out (by simp)).mono ?_
  rintro e w4 ⟨rfl, hb4⟩
  have HB4 := hid hb4; clear hb4
  go_wp2_with fail
  go_ret
  exact ⟨by simp, by rw [HS.out]; exact HP3.out.below HB4.out⟩

theorem step_any (w0 w : World) (g m d r q : Nat) (s : Gr.St) (E o c i : Int) (h : Play w0 w g m d r q s s) (ho : Gr.Ok s E) (hE : E ≤ 1000000) :
    Calls Try.prog 26 #[.pointer (some ⟨g, 0, none⟩), .pointer (some ⟨m, 0, none⟩), .agg #[.int .i64 o, .int .i64 c, .int .i64 i]] w (Steps w0 g m d r q (stepTo s o c i)) := by
  have h0 := Int.emod_nonneg o (show (5 : Int) ≠ 0 by decide)
  have h1 := Int.emod_lt_of_pos o (show (0 : Int) < 5 by decide)
  rcases (by omega : o % 5 = 0 ∨ o % 5 = 1 ∨ o % 5 = 2 ∨ o % 5 = 3 ∨ o % 5 = 4) with h | h | h | h | h
  · exact step0 w0 w g m d r q s E o c i ‹_› ho hE h
  · exact step1 w0 w g m d r q s E o c i ‹_› ho hE h
  · exact step2 w0 w g m d r q s E o c i ‹_› ho hE h
  · exact step3 w0 w g m d r q s E o c i ‹_› ho hE h
  · exact step4 w0 w g m d r q s E o c i ‹_› ho h
end Go.Proofs.Ytkkbgohijokbhaa
