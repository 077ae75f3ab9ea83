/- book.done: Lock, Unlock, Quiet. -/
import Derived.Test.YtkkbgohijokbhaaTd
namespace Go.Proofs.Ytkkbgohijokbhaa
open Go.RowKit
open Gr (Noted)

/-- the machine and the book, both made since w0 -/
structure Both (w0 w : World) (g k : Nat) (s : Gr.St) (V : Nat → Value) (L : Nat → List Noted) (E : Int) : Prop where
  S : Solo w0 w g s
  K : BRep w w0.heap.size k s.deep V L
  T : Gr.Wt s L
  O : Gr.Ok s E
section
variable {w0 w w' : World} {g k : Nat} {s s' : Gr.St} {V V' : Nat → Value} {L L' : Nat → List Noted} {E E' : Int}
theorem Both.below (h : Both w0 w g k s V L E) (hb : Below w.heap.size w w') : Both w0 w' g k s V L E := ⟨h.S.below hb, h.K.below hb, h.T, h.O⟩
theorem Both.drewN (h : Both w0 w g k s V L E) (n : Nat) : Both w0 (w.drewN n) g k s V L E := ⟨h.S.drewN n, h.K.drewN n, h.T, h.O⟩
theorem Both.mono (h : Both w0 w g k s V L E) (hE : E ≤ E') : Both w0 w g k s V L E' := ⟨h.S, h.K, h.T, h.O.mono hE⟩
/-- what a step of the book comes to -/
def Done (w0 : World) (g k : Nat) (E : Int) (e : Ending) (w' : World) : Prop := e = .returned (.bool true) ∧ ∃ s' V' L', Both w0 w' g k s' V' L' (E + 1)
end

/-- the end: Depth is what the book says -/
theorem depth_quiet {g x : Nat} {s : Gr.St} {E v : Int} {w : World} {n : Nat} (h : GRep w g s) (ho : Gr.Ok s E) (hx : x < s.deep.length) (hv : s.deep.getD x 0 = v) :
    Calls Try.prog 35 #[.pointer (some ⟨g, 0, none⟩), .int .i64 (x : Int)] (w.drewN n) fun e w'' => e = .returned (.int .i64 v) ∧ ∃ m, w'' = w.drewN m :=
  (depth_any g s E x (w.drewN n) h ho).mono fun e w'' ⟨he, hw⟩ => ⟨by rw [he, depthOf_nat hx, hv], n, hw.symm⟩

set_option maxHeartbeats 3200000 in
theorem bdone0 (w0 w : World) (g k : Nat) (s : Gr.St) (V : Nat → Value) (L : Nat → List Noted) (E o c i : Int) (h : Both w0 w g k s V L E) (h5 : o % 5 = 0) :
    Calls Try.prog 39 #[.pointer (some ⟨k, 0, none⟩), .pointer (some ⟨g, 0, none⟩), .agg #[.int .i64 o, .int .i64 c, .int .i64 i]] w (Done w0 g k E) := by
  have hb0 : Below w.heap.size w (w.alloc (.cells #[.int .i64 o, .int .i64 c, .int .i64 i] 48)) := (Below.refl _ _).alloc (Nat.le_refl _) _
  have H := hid (h.below hb0)
  have H5 := hid h5
  obtain ⟨x, hx3⟩ : ∃ x : Nat, c % 3 = (x : Int) := ⟨(c % 3).toNat, by omega⟩
  have hx : x < 3 := by omega
  have HX := hid hx3
  obtain ⟨d, hd⟩ : ∃ d, s.deep.getD x 0 = d := ⟨_, rfl⟩
  have hd8 : 0 ≤ d ∧ d ≤ 8 := by rw [← hd]; exact h.O.dp x (by rw [h.T.n3]; exact hx)
  have HD := hid hd
  clear h h5 hb0 hx3 hd
  go_enter Try.func39, Try.ntmps39
  go_wp2_with fail
  refine (bring_any c 3 (by decide) (by decide) _).mono ?_
  rintro e w1 ⟨rfl, rfl⟩
  rw [HX.out]
  go_wp2_with fail
  refine (bring_any o 5 (by decide) (by decide) _).mono ?_
  rintro e w1 ⟨rfl, rfl⟩
  rw [H5.out]
  go_wp2_with fail
  generalize (w.alloc (.cells #[.int .i64 o, .int .i64 c, .int .i64 i] 48)) = w1 at H ⊢
  refine (lock_any g s E x _ H.out.S.G H.out.O).mono ?_
  rintro e w2 ⟨rfl, hG, hF⟩
  by_cases h8 : d = 8
  · have hl : s.lock x = (s, 5) := by rw [Gr.lock_nat H.out.T hx, if_pos (by rw [HD.out]; exact h8)]
    rw [hl] at hG ⊢
    have HB : Hid (Both w0 w2 g k s V L E) := hid ⟨H.out.S.step hG hF, H.out.K.machine H.out.S.G hF, H.out.T, H.out.O⟩
    clear hl hG hF
    have cd := HB.out.K.deepAt hx
    rw [show s.deep.getD x 0 = d from HD.out] at cd
    have HN3 : Hid (x < s.deep.length) := hid (by rw [HB.out.T.n3]; exact hx)
    go_wp2_with fail
    go_quiet ((go_at_call 35; exact depth_quiet HB.out.S.G HB.out.O HN3.out HD.out))
    go_wp2_with fail
    go_ret
    exact ⟨rfl, _, _, _, (HB.out.drewN _).mono (by omega)⟩
  · have hl : s.lock x = ({ s with deep := s.deep.set x (d + 1) }, 0) := by rw [Gr.lock_nat H.out.T hx, if_neg (by rw [HD.out]; exact h8), HD.out]
    have hO := H.out.O.lock_ x
    have hT : Gr.Wt { s with deep := s.deep.set x (d + 1) } L := by have := H.out.T.lock H.out.O hx; rw [HD.out] at this; exact this
    rw [hl] at hG hO ⊢
    have hk := H.out.K.machine H.out.S.G hF
    have hs := H.out.S.step hG hF
    have cd0 := hk.deepAt hx
    rw [HD.out] at cd0
    have hfk := hk.frozen x
    have HK := hid hk; have HS := hid hs; have HO := hid hO; have HT := hid hT
    clear hl hG hF hk hs hO hT
    have hd9 : d + 1 ≤ 8 := by omega
    go_wp2_with fail
    go_region
    have HB : Hid (Both w0 (w2.setCell ⟨k, x, none⟩ (.int .i64 (d + 1))).drew g k { s with deep := s.deep.set x (d + 1) } V L E) := hid ⟨(HS.out.fk (HK.out.fk_k x (.int .i64 (d + 1)))).drewN 1, (HK.out.setDeep hx H.out.T.n3 (d + 1)).drew, HT.out, HO.out⟩
    have HV : Hid ((s.deep.set x (d + 1)).getD x 0 = d + 1) := hid (by rw [Gr.getD_set _ _ _ _ _ (by rw [H.out.T.n3]; exact hx), if_pos rfl])
    clear cd0 hfk
    generalize (w2.setCell ⟨k, x, none⟩ (.int .i64 (d + 1))).drew = w3 at HB ⊢
    have cd := HB.out.K.deepAt hx
    rw [show (s.deep.set x (d + 1)).getD x 0 = (d + 1) from HV.out] at cd
    have HN3 : Hid (x < (s.deep.set x (d + 1)).length) := hid (by rw [List.length_set, H.out.T.n3]; exact hx)
    go_wp2_with fail
    go_quiet ((go_at_call 35; exact depth_quiet HB.out.S.G HB.out.O HN3.out HV.out))
    go_wp2_with fail
    go_ret
    exact ⟨rfl, _, _, _, (HB.out.drewN _).mono (by omega)⟩
set_option maxHeartbeats 3200000 in
theorem bdone1 (w0 w : World) (g k : Nat) (s : Gr.St) (V : Nat → Value) (L : Nat → List Noted) (E o c i : Int) (h : Both w0 w g k s V L E) (h5 : o % 5 = 1) :
    Calls Try.prog 39 #[.pointer (some ⟨k, 0, none⟩), .pointer (some ⟨g, 0, none⟩), .agg #[.int .i64 o, .int .i64 c, .int .i64 i]] w (Done w0 g k E) := by
  have hb0 : Below w.heap.size w (w.alloc (.cells #[.int .i64 o, .int .i64 c, .int .i64 i] 48)) := (Below.refl _ _).alloc (Nat.le_refl _) _
  have H := hid (h.below hb0)
  have H5 := hid h5
  obtain ⟨x, hx3⟩ : ∃ x : Nat, c % 3 = (x : Int) := ⟨(c % 3).toNat, by omega⟩
  have hx : x < 3 := by omega
  have HX := hid hx3
  obtain ⟨d, hd⟩ : ∃ d, s.deep.getD x 0 = d := ⟨_, rfl⟩
  have hd8 : 0 ≤ d ∧ d ≤ 8 := by rw [← hd]; exact h.O.dp x (by rw [h.T.n3]; exact hx)
  have HD := hid hd
  clear h h5 hb0 hx3 hd
  go_enter Try.func39, Try.ntmps39
  go_wp2_with fail
  refine (bring_any c 3 (by decide) (by decide) _).mono ?_
  rintro e w1 ⟨rfl, rfl⟩
  rw [HX.out]
  go_wp2_with fail
  refine (bring_any o 5 (by decide) (by decide) _).mono ?_
  rintro e w1 ⟨rfl, rfl⟩
  rw [H5.out]
  go_wp2_with fail
  generalize (w.alloc (.cells #[.int .i64 o, .int .i64 c, .int .i64 i] 48)) = w1 at H ⊢
  refine (unlock_any g s E x _ H.out.S.G H.out.O).mono ?_
  rintro e w2 ⟨rfl, hG, hF⟩
  by_cases h8 : d = 0
  · have hl : s.unlock x = (s, 292) := by rw [Gr.unlock_nat H.out.T hx, if_pos (by rw [HD.out]; exact h8)]
    rw [hl] at hG ⊢
    have HB : Hid (Both w0 w2 g k s V L E) := hid ⟨H.out.S.step hG hF, H.out.K.machine H.out.S.G hF, H.out.T, H.out.O⟩
    clear hl hG hF
    have cd := HB.out.K.deepAt hx
    rw [show s.deep.getD x 0 = d from HD.out] at cd
    have HN3 : Hid (x < s.deep.length) := hid (by rw [HB.out.T.n3]; exact hx)
    go_wp2_with fail
    go_quiet ((go_at_call 35; exact depth_quiet HB.out.S.G HB.out.O HN3.out HD.out))
    go_wp2_with fail
    go_ret
    exact ⟨rfl, _, _, _, (HB.out.drewN _).mono (by omega)⟩
  · have hl : s.unlock x = ({ s with deep := s.deep.set x (d - 1) }, 0) := by rw [Gr.unlock_nat H.out.T hx, if_neg (by rw [HD.out]; exact h8), HD.out]
    have hO := H.out.O.unlock_ x
    rw [hl] at hG hO ⊢
    have hk := H.out.K.machine H.out.S.G hF
    have hs := H.out.S.step hG hF
    have cd0 := hk.deepAt hx
    rw [HD.out] at cd0
    have hfk := hk.frozen x
    have HK := hid hk; have HS := hid hs; have HO := hid hO
    clear hl hG hF hk hs hO
    have hd9 : 0 < d := by omega
    have HV : Hid ((s.deep.set x (d - 1)).getD x 0 = d - 1) := hid (by rw [Gr.getD_set _ _ _ _ _ (by rw [H.out.T.n3]; exact hx), if_pos rfl])
    have HK2 := hid (HK.out.setDeep hx H.out.T.n3 (d - 1)).drew
    have HS2 : Hid (Solo w0 (w2.setCell ⟨k, x, none⟩ (.int .i64 (d - 1))).drew g { s with deep := s.deep.set x (d - 1) }) := hid ((HS.out.fk (HK.out.fk_k x (.int .i64 (d - 1)))).drewN 1)
    by_cases h1 : d = 1
    · have hT : Gr.Wt { s with deep := s.deep.set x (d - 1) } (Gr.allOf (Gr.clrI x) L) := by have := H.out.T.unlock0 hx; rw [HD.out] at this; exact this
      have HT := hid hT
      clear hT
      subst h1
      have e0 : (1 : Int) - 1 = 0 := rfl
      rw [e0] at HK2 HS2 HV HO HT
      clear e0
      have cd1 := HK2.out.deepAt hx
      rw [HV.out] at cd1
      go_wp2_with fail
      go_region
      go_wp2_with fail
      generalize (w2.setCell ⟨k, x, none⟩ (.int .i64 0)).drew = w3 at HK2 HS2 cd1 ⊢
      refine (unlocked_any k x w0.heap.size _ V L _ HK2.out hx).mono ?_
      rintro e w4 ⟨rfl, hK4, hF4⟩
      have HB : Hid (Both w0 w4 g k { s with deep := s.deep.set x 0 } V (Gr.allOf (Gr.clrI x) L) E) := hid ⟨HS2.out.fk hF4, hK4, HT.out, HO.out⟩
      clear hK4 hF4 cd0 hfk cd1
      have cd := HB.out.K.deepAt hx
      rw [show (s.deep.set x 0).getD x 0 = 0 from HV.out] at cd
      have HN3 : Hid (x < (s.deep.set x 0).length) := hid (by rw [List.length_set, H.out.T.n3]; exact hx)
      go_wp2_with fail
      go_quiet ((go_at_call 35; exact depth_quiet HB.out.S.G HB.out.O HN3.out HV.out))
      go_wp2_with fail
      go_ret
      exact ⟨rfl, _, _, _, (HB.out.drewN _).mono (by omega)⟩
    · have hT : Gr.Wt { s with deep := s.deep.set x (d - 1) } L := by have := H.out.T.unlock hx (by rw [HD.out]; omega); rw [HD.out] at this; exact this
      have HT := hid hT
      clear hT
      have cd1 := HK2.out.deepAt hx
      rw [HV.out] at cd1
      have hd1 : ((d - 1 : Int) == 0) = false := by rw [beq_eq_false_iff_ne]; omega
      have hd1' : ¬ d - 1 = 0 := by omega
      have HB : Hid (Both w0 (w2.setCell ⟨k, x, none⟩ (.int .i64 (d - 1))).drew g k { s with deep := s.deep.set x (d - 1) } V L E) := hid ⟨HS2.out, HK2.out, HT.out, HO.out⟩
      go_wp2_with fail
      go_region
      go_wp2_with fail
      generalize (w2.setCell ⟨k, x, none⟩ (.int .i64 (d - 1))).drew = w3 at HB cd1 ⊢
      clear cd0 hfk hd1 hd1'
      have HN3 : Hid (x < (s.deep.set x (d - 1)).length) := hid (by rw [List.length_set, H.out.T.n3]; exact hx)
      go_wp2_with fail
      go_quiet ((go_at_call 35; exact depth_quiet HB.out.S.G HB.out.O HN3.out HV.out))
      go_wp2_with fail
      go_ret
      exact ⟨rfl, _, _, _, (HB.out.drewN _).mono (by omega)⟩
theorem bquiet_deep (s : Gr.St) (c : Int) : (s.quiet c).1.deep = s.deep := by
  unfold Gr.St.quiet
  split
  · split
    · rfl
    · split
      · dsimp only
        split
        · rfl
        · split <;> rfl
      · rfl
  · rfl

set_option maxHeartbeats 3200000 in
theorem bdone2 (w0 w : World) (g k : Nat) (s : Gr.St) (V : Nat → Value) (L : Nat → List Noted) (E o c i : Int) (h : Both w0 w g k s V L E) (hE : E ≤ 1000000) (h5 : o % 5 = 2) :
    Calls Try.prog 39 #[.pointer (some ⟨k, 0, none⟩), .pointer (some ⟨g, 0, none⟩), .agg #[.int .i64 o, .int .i64 c, .int .i64 i]] w (Done w0 g k E) := by
  have hb0 : Below w.heap.size w (w.alloc (.cells #[.int .i64 o, .int .i64 c, .int .i64 i] 48)) := (Below.refl _ _).alloc (Nat.le_refl _) _
  have H := hid (h.below hb0)
  have H5 := hid h5
  obtain ⟨x, hx3⟩ : ∃ x : Nat, c % 3 = (x : Int) := ⟨(c % 3).toNat, by omega⟩
  have hx : x < 3 := by omega
  have HX := hid hx3
  obtain ⟨d, hd⟩ : ∃ d, s.deep.getD x 0 = d := ⟨_, rfl⟩
  have hd8 : 0 ≤ d ∧ d ≤ 8 := by rw [← hd]; exact h.O.dp x (by rw [h.T.n3]; exact hx)
  have HD := hid hd
  clear h h5 hb0 hx3 hd
  go_enter Try.func39, Try.ntmps39
  go_wp2_with fail
  refine (bring_any c 3 (by decide) (by decide) _).mono ?_
  rintro e w1 ⟨rfl, rfl⟩
  rw [HX.out]
  go_wp2_with fail
  refine (bring_any o 5 (by decide) (by decide) _).mono ?_
  rintro e w1 ⟨rfl, rfl⟩
  rw [H5.out]
  go_wp2_with fail
  generalize (w.alloc (.cells #[.int .i64 o, .int .i64 c, .int .i64 i] 48)) = w1 at H ⊢
  refine (quiet_any g s E x _ H.out.S.G H.out.O hE).mono ?_
  rintro e w2 ⟨rfl, hG, hF⟩
  by_cases h8 : 0 < d
  · have hl : s.quiet x = (s, 292) := Gr.quiet_busy H.out.T hx (by rw [HD.out]; exact h8)
    rw [hl] at hG ⊢
    have HB : Hid (Both w0 w2 g k s V L E) := hid ⟨H.out.S.step hG hF, H.out.K.machine H.out.S.G hF, H.out.T, H.out.O⟩
    have hd1 : (d == 0) = false := by rw [beq_eq_false_iff_ne]; omega
    clear hl hG hF
    have cd := HB.out.K.deepAt hx
    rw [show s.deep.getD x 0 = d from HD.out] at cd
    have HN3 : Hid (x < s.deep.length) := hid (by rw [HB.out.T.n3]; exact hx)
    go_wp2_with fail
    go_quiet ((go_at_call 35; exact depth_quiet HB.out.S.G HB.out.O HN3.out HD.out))
    go_wp2_with fail
    go_ret
    exact ⟨rfl, _, _, _, (HB.out.drewN _).mono (by omega)⟩
  · obtain ⟨hz, hT⟩ := H.out.T.quiet H.out.O hx (by rw [HD.out]; exact h8)
    have hO := H.out.O.quiet_ x
    rw [hz]
    have hk := H.out.K.machine H.out.S.G hF
    have hs := H.out.S.step hG hF
    have hdp := bquiet_deep s x
    have cd0 := hk.deepAt hx
    rw [HD.out] at cd0
    have hd1 : (d == 0) = true := by rw [beq_iff_eq]; omega
    have hd1' : d = 0 := by omega
    obtain ⟨s2, hs2⟩ : ∃ s2, s2 = (s.quiet x).1 := ⟨_, rfl⟩
    rw [← hs2] at hT hO hs hdp
    rw [← hdp] at hk
    have HV : Hid (s2.deep.getD x 0 = d) := hid (by rw [hdp]; exact HD.out)
    have HK := hid hk; have HS := hid hs; have HO := hid hO; have HT := hid hT
    clear hs2 hz hT hO hs hk hdp hG hF
    go_wp2_with fail
    refine (reported_any k x w0.heap.size _ V L _ HK.out hx).mono ?_
    rintro e w4 ⟨rfl, hK4, hF4⟩
    have HB : Hid (Both w0 w4 g k s2 V (Gr.allOf (Gr.clrS x) L) (E + 1)) := hid ⟨HS.out.fk hF4, hK4, HT.out, HO.out⟩
    clear hK4 hF4 cd0 hd1 hd1'
    have cd := HB.out.K.deepAt hx
    rw [show s2.deep.getD x 0 = d from HV.out] at cd
    have HN3 : Hid (x < s2.deep.length) := hid (by rw [HB.out.T.n3]; exact hx)
    go_wp2_with fail
    go_quiet ((go_at_call 35; exact depth_quiet HB.out.S.G HB.out.O HN3.out HV.out))
    go_wp2_with fail
    go_ret
    exact ⟨rfl, _, _, _, (HB.out.drewN _).mono (by omega)⟩
end Go.Proofs.Ytkkbgohijokbhaa
