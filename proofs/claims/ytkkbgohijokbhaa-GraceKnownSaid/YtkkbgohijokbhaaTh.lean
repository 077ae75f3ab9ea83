/- the law GraceWaits as a call. -/
import Derived.Test.YtkkbgohijokbhaaTg
namespace Go.Proofs.Ytkkbgohijokbhaa
open Go.RowKit
open Gr (Noted)

theorem bdone_any (w0 w : World) (g k : Nat) (s : Gr.St) (V : Nat → Value) (L : Nat → List Noted) (E o c i : Int) (h : Both w0 w g k s V L E) (hE : E ≤ 1000000) :
    Calls Try.prog 39 #[.pointer (some ⟨k, 0, none⟩), .pointer (some ⟨g, 0, none⟩), .agg #[.int .i64 o, .int .i64 c, .int .i64 i]] w (Done w0 g k E) := by
  have : o % 5 = 0 ∨ o % 5 = 1 ∨ o % 5 = 2 ∨ o % 5 = 3 ∨ o % 5 = 4 := by omega
  rcases this with h5 | h5 | h5 | h5 | h5
  · exact bdone0 w0 w g k s V L E o c i h h5
  · exact bdone1 w0 w g k s V L E o c i h h5
  · exact bdone2 w0 w g k s V L E o c i h hE h5
  · exact bdone3 w0 w g k s V L E o c i h hE h5
  · exact bdone4 w0 w g k s V L E o c i h h5

theorem waits_quiet {g x : Nat} {s : Gr.St} {E v : Int} {w : World} {n : Nat} (h : GRep w g s) (ho : Gr.Ok s E) (hx : x < s.deep.length) (hv : ((s.rows.getD x []).length : Int) = v) :
    Calls Try.prog 36 #[.pointer (some ⟨g, 0, none⟩), .int .i64 (x : Int)] (w.drewN n) fun e w'' => e = .returned (.int .i64 v) ∧ ∃ m, w'' = w.drewN m :=
  (waits_any g s E x (w.drewN n) h ho).mono fun e w'' ⟨he, hw⟩ => ⟨by rw [he, waitsOf_nat hx, hv], n, hw.symm⟩

theorem brep_new (w : World) (B : Nat) (hB : B ≤ w.heap.size) : BRep (w.alloc (.cells #[.int .i64 0, .int .i64 0, .int .i64 0, .slice none 0 0, .slice none 0 0, .slice none 0 0] 73)) B w.heap.size (Gr.new 3).deep (fun _ => .slice none 0 0) (fun _ => []) :=
  ⟨Blk.new w 73 _, hB, fun _ _ => .inl ⟨rfl, rfl⟩, fun _ _ _ _ _ g hg => by cases hg⟩

set_option maxHeartbeats 3200000 in
set_option maxRecDepth 100000 in
theorem graceWaits_any (A : Option Addr) (n cp : Nat) (W : World) (h : Dos W A n) : Calls Try.prog 11 #[.slice A n cp] W fun e w' => e = .returned (.bool true) ∧ Below W.heap.size W w' := by
  have H := hid h
  clear h
  go_enter Try.func11, Try.ntmps11
  go_wp2_with fail
  refine (works10 _).mono ?_
  rintro e w0 ⟨rfl, hb⟩
  have HB0 := hid hb; clear hb
  go_wp2_with fail
  refine (new_ok 3 (by decide) (by decide) w0).mono ?_
  rintro e w1 ⟨g, rfl, hg, hG, hB⟩
  have HS1 : Hid (Solo w0 w1 g (Gr.new 3)) := hid ⟨hG, hB, hg⟩
  clear hG hB hg
  go_wp2_with fail
  have hal : Below w1.heap.size w1 (w1.alloc (.cells #[.int .i64 0, .int .i64 0, .int .i64 0, .slice none 0 0, .slice none 0 0, .slice none 0 0] 73)) := (Below.refl _ _).alloc (Nat.le_refl _) _
  have HB1 : Hid (Both w0 (w1.alloc (.cells #[.int .i64 0, .int .i64 0, .int .i64 0, .slice none 0 0, .slice none 0 0, .slice none 0 0] 73)) g w1.heap.size (Gr.new 3) (fun _ => .slice none 0 0) (fun _ => []) 0) :=
    hid ⟨HS1.out.below hal, brep_new w1 w0.heap.size HS1.out.B.size, Gr.wt_new, Gr.Ok.new_ 3 (by decide) (by decide)⟩
  clear hal
  obtain ⟨k, hk⟩ : ∃ k, k = w1.heap.size := ⟨_, rfl⟩
  rw [← hk] at HB1 ⊢
  generalize w1.alloc (.cells #[.int .i64 0, .int .i64 0, .int .i64 0, .slice none 0 0, .slice none 0 0, .slice none 0 0] 73) = w2 at HB1 ⊢
  clear hk
  go_loopw [6, 7] (fun i y wr => ∃ (j : Nat) (s : Gr.St) (V : Nat → Value) (L : Nat → List Noted), j ≤ n ∧ j ≤ 300 ∧ i = .int .i64 j ∧ Hid (Both w0 wr g k s V L j)) (fun i _ _ => (n - intOf i).toNat)
  case atStart => exact ⟨0, _, _, _, Nat.zero_le _, Nat.zero_le _, rfl, HB1⟩
  case round =>
    obtain ⟨j, s, V, L, hj, hj3, rfl, HB⟩ := hrel
    by_cases hlt : j < n
    · by_cases hlt3 : j < 300
      · obtain ⟨b, o, x, y, z, rfl, hbo, c1, c2, c3⟩ := H.out j hlt
        have hbw := hbo
        have d1 := (HB.out.S.B.cell (p := ⟨b, o + j * 3, none⟩) (Nat.lt_of_lt_of_le hbo HB0.out.size)).trans ((HB0.out.cell (p := ⟨b, o + j * 3, none⟩) hbo).trans c1)
        have d2 := (HB.out.S.B.cell (p := ⟨b, o + j * 3 + 1, none⟩) (Nat.lt_of_lt_of_le hbo HB0.out.size)).trans ((HB0.out.cell (p := ⟨b, o + j * 3 + 1, none⟩) hbo).trans c2)
        have d3 := (HB.out.S.B.cell (p := ⟨b, o + j * 3 + 2, none⟩) (Nat.lt_of_lt_of_le hbo HB0.out.size)).trans ((HB0.out.cell (p := ⟨b, o + j * 3 + 2, none⟩) hbo).trans c3)
        clear c1 c2 c3 hbw hbo
        go_wp2_with fail
        refine (bdone_any w0 wr g k s V L j x y z HB.out (by omega)).mono ?_
        rintro e w4 ⟨rfl, s2, V2, L2, hB⟩
        have HB4 := hid hB
        clear hB d1 d2 d3
        go_wp2_with fail
        go_loopw [7] (fun i wq => ∃ (m q : Nat), m ≤ 3 ∧ i = .int .i64 m ∧ wq = w4.drewN q) (fun i _ => 3 - (intOf i).toNat)
        case atStart => exact ⟨0, 0, Nat.zero_le _, rfl, rfl⟩
        case round =>
          obtain ⟨m, q, hm, rfl, hwq⟩ := hrel
          have HBm : Hid (Both w0 wr g k s2 V2 L2 (j + 1)) := by rw [hwq]; exact hid (HB4.out.drewN q)
          by_cases hlt4 : m < 3
          · obtain ⟨A', cc, hv, hl1, -⟩ := (HBm.out.K.row m hlt4).slice
            have cv := HBm.out.K.callsAt hlt4
            rw [hv] at cv
            have hr := HBm.out.T.rows m hlt4
            obtain ⟨N, hN⟩ : ∃ N, (L2 m).length = N := ⟨_, rfl⟩
            rw [hN] at cv
            have HV : Hid (((s2.rows.getD m []).length : Int) = (N : Int)) := hid (by rw [hr, List.length_map, hN])
            have HN3 : Hid (m < s2.deep.length) := hid (by rw [HBm.out.T.n3]; exact hlt4)
            have HQ := hid hwq
            clear hv hl1 hr hN hwq
            go_wp2_with fail
            go_quiet ((go_at_call 36; exact waits_quiet HBm.out.S.G HBm.out.O HN3.out HV.out))
            go_wp2_with fail
            go_roundw
            case rel => exact ⟨m + 1, _, by omega, by go_num, by rw [HQ.out, World.drewN_drewN]⟩
            case measure => simp [intOf]; omega
          · clear hwq
            go_wp2_with fail
            go_roundw
            case rel => exact ⟨j + 1, s2, V2, L2, by omega, by omega, by go_num, by simpa using HBm⟩
            case measure => simp [intOf]; omega
      · go_wp2_with fail
        go_ret
        exact ⟨rfl, HB0.out.trans (HB.out.S.B.mono HB0.out.size)⟩
    · go_wp2_with fail
      go_ret
      exact ⟨rfl, HB0.out.trans (HB.out.S.B.mono HB0.out.size)⟩
end Go.Proofs.Ytkkbgohijokbhaa
