/- book.done: Poll. -/
import Derived.Test.YtkkbgohijokbhaaTe
namespace Go.Proofs.Ytkkbgohijokbhaa
open Go.RowKit
open Gr (Noted)

theorem bpoll_deep (s : Gr.St) (c : Int) : (s.poll c).1.deep = s.deep := by
  unfold Gr.St.poll
  split
  · split <;> rfl
  · rfl
theorem wt_len {s : Gr.St} {L : Nat → List Noted} {E : Int} {x : Nat} (h : Gr.Wt s L) (ho : Gr.Ok s E) (hx : x < 3) : (L x).length ≤ 256 := by
  have := ho.row x (by rw [h.n3]; exact hx)
  rw [h.rows x hx] at this
  have := (Gr.check_zero.1 this).1
  simpa using this

set_option maxHeartbeats 3200000 in
theorem bdone4 (w0 w : World) (g k : Nat) (s : Gr.St) (V : Nat → Value) (L : Nat → List Noted) (E o c i : Int) (h : Both w0 w g k s V L E) (h5 : o % 5 = 4) :
    Calls Try.prog 39 #[.pointer (some ⟨k, 0, none⟩), .pointer (some ⟨g, 0, none⟩), .agg #[.int .i64 o, .int .i64 c, .int .i64 i]] w (Done w0 g k E) := by
  have hb0 : Below w.heap.size w (w.alloc (.cells #[.int .i64 o, .int .i64 c, .int .i64 i] 48)) := (Below.refl _ _).alloc (Nat.le_refl _) _
  have H := hid (h.below hb0)
  have H5 := hid h5
  obtain ⟨x, hx3⟩ : ∃ x : Nat, c % 3 = (x : Int) := ⟨(c % 3).toNat, by omega⟩
  have hx : x < 3 := by omega
  have HX := hid hx3
  clear h h5 hb0 hx3
  go_enter Try.func39, Try.ntmps39
  go_wp2_with fail
  refine (bring_any c 3 (by decide) (by decide) _).mono ?_
  rintro e w1 ⟨rfl, rfl⟩
  rw [HX.out]
  go_wp2_with fail
  refine (bring_any o 5 (by decide) (by decide) _).mono ?_
  rintro e w1 ⟨rfl, rfl⟩
  rw [H5.out]
  go_wp2_with fail
  generalize (w.alloc (.cells #[.int .i64 o, .int .i64 c, .int .i64 i] 48)) = w1 at H ⊢
  refine (poll_any g s E x _ H.out.S.G H.out.O).mono ?_
  rintro e w2 ⟨v, rfl, hI, hG, hF⟩
  obtain ⟨p, hp, hpe, hT, hfl⟩ := H.out.T.poll H.out.O hx
  have hO := H.out.O.poll_ x
  have hlen := wt_len H.out.T H.out.O hx
  have hdp := bpoll_deep s x
  have h2 : (s.poll x).2 = (((L x).take p).map (·.1.1), 0) := by rw [hpe]
  rw [show (s.poll x).2.1 = ((L x).take p).map (·.1.1) by rw [h2]] at hI
  rw [show (s.poll x).2.2 = 0 by rw [h2]]
  have hk := H.out.K.machine H.out.S.G hF
  have hs := H.out.S.step hG hF
  obtain ⟨s2, hs2⟩ : ∃ s2, s2 = (s.poll x).1 := ⟨_, rfl⟩
  rw [← hs2] at hT hO hs hdp
  rw [← hdp] at hk
  obtain ⟨A, N, cp, rfl, hN, -, -, -⟩ := hI.ri
  obtain rfl : N = p := by rw [hN]; simp; omega
  have hids : ∀ (i : Nat) (z : Int), (((L x).take N).map (·.1.1))[i]? = some z → ∃ q : Noted, (L x)[i]? = some q ∧ q.1.1 = z ∧ ∀ j, j < 3 → q.2.1.getD j false = false ∧ q.2.2.getD j false = false := by
    intro i z hz
    rw [List.getElem?_map] at hz
    cases hq : ((L x).take N)[i]? with
    | none => rw [hq] at hz; cases hz
    | some q =>
      rw [hq] at hz
      injection hz with hz
      have hi : i < N := by
        have := (List.getElem?_eq_some_iff.1 hq).1
        rw [List.length_take] at this; omega
      exact ⟨q, by rw [← hq, List.getElem?_take_of_lt hi], hz, hfl q (List.mem_of_getElem? hq)⟩
  have HK := hid hk; have HS := hid hs; have HO := hid hO; have HT := hid hT; have HI := hid hI; have HD := hid hids
  have HB := hid HS.out.B.size
  clear hs2 hpe hT hfl hO hs hk hdp hG hF h2 hI hids hN
  go_wp2_with fail
  refine (polled_any k x w0.heap.size _ _ V L _ HK.out hx HB.out _ A N cp HI.out hp (by unfold maxLen; omega) HD.out).mono ?_
  rintro e w4 ⟨rfl, V', hK4, hF4⟩
  have HB4 : Hid (Both w0 w4 g k s2 V' (Gr.upd L x ((L x).drop N)) E) := hid ⟨HS.out.fk hF4, hK4, HT.out, HO.out⟩
  clear hK4 hF4
  go_wp2_with fail
  go_ret
  exact ⟨rfl, _, _, _, HB4.out.mono (by omega)⟩
end Go.Proofs.Ytkkbgohijokbhaa
