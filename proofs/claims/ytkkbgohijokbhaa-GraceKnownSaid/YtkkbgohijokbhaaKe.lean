/- GraceKnown as a call. -/
import Derived.Test.YtkkbgohijokbhaaKd
namespace Go.Proofs.Ytkkbgohijokbhaa
open Go.RowKit

set_option maxHeartbeats 6400000 in
set_option maxRecDepth 100000 in
theorem graceKnown_any (W : World) : Calls Try.prog 7 #[] W fun e w' => e = .returned (.bool true) ∧ Below W.heap.size W w' := by
  go_enter Try.func7, Try.ntmps7
  go_wp2_with fail
  go_loopw [1, 2, 3, 4, 5, 6] (fun p i a b c d wr => ∃ (j : Nat) (P : Option Addr), j ≤ 2 ∧ i = .int .i64 j ∧ p = .pointer P ∧ Hid (NoM wr P) ∧ Hid (Below W.heap.size W wr)) (fun _ i _ _ _ _ _ => 2 - (intOf i).toNat)
  case atStart => exact ⟨0, none, Nat.zero_le _, rfl, rfl, .inl rfl, Below.refl _ _⟩
  case round =>
    obtain ⟨j, P, hj, rfl, rfl, HP, HB⟩ := hrel
    by_cases hlt : j < 2
    · go_wp2_with fail
      refine (poll_none P (-1) _ HP.out).mono ?_
      rintro e w1 ⟨rfl, rfl⟩
      go_wp2_with fail
      refine (donef_none P _ HP.out).mono ?_
      rintro e w1 ⟨rfl, rfl⟩
      go_wp2_with fail
      refine (lock_none P (-1) _ HP.out).mono ?_
      rintro e w1 ⟨rfl, rfl⟩
      go_wp2_with fail
      refine (unlock_none P (-1) _ HP.out).mono ?_
      rintro e w1 ⟨rfl, rfl⟩
      go_wp2_with fail
      refine (quiet_none P (-1) _ HP.out).mono ?_
      rintro e w1 ⟨rfl, rfl⟩
      go_wp2_with fail
      refine (call_none P (-1) (-1) _ HP.out).mono ?_
      rintro e w1 ⟨rfl, rfl⟩
      go_wp2_with fail
      refine (depth_none P 0 _ HP.out).mono ?_
      rintro e w1 ⟨rfl, rfl⟩
      go_wp2_with fail
      refine (waits_none P 0 _ HP.out).mono ?_
      rintro e w1 ⟨rfl, rfl⟩
      go_wp2_with fail
      refine (wanted_none P 0 _ HP.out).mono ?_
      rintro e w1 ⟨rfl, rfl⟩
      go_wp2_with fail
      go_roundw
      case rel => exact ⟨j + 1, _, by omega, by go_num, rfl, .inr ⟨_, rfl, (Blk.cell (Blk.new _ 63 _) 0).trans rfl⟩, HB.out.alloc HB.out.size _⟩
      case measure => simp [intOf]; omega
    · clear HP
      have hB := hid HB.out.size
      go_wp2_with fail
      go_loopw [7, 8] (fun l i wr => ∃ (j : Nat) (A : Option Addr) (c : Nat) (xs : List Value), j ≤ 10 ∧ i = .int .i64 j ∧ l = .slice A j c ∧ Hid (Dl wr W.heap.size (.slice A j c) j xs) ∧ Hid (Below W.heap.size W wr)) (fun _ i _ => 10 - (intOf i).toNat)
      case atStart => exact ⟨0, none, 0, [], Nat.zero_le _, rfl, rfl, Dl.nil _ _, HB⟩
      case round =>
        obtain ⟨j, A, c, xs, hj, rfl, rfl, HD, HB⟩ := hrel
        obtain ⟨wo, rfl⟩ : ∃ wo : World, wo = wr := ⟨_, rfl⟩
        by_cases hlt : j < 10
        · have HBA := fun cs => hid (HB.out.alloc HB.out.size (.cells cs 48))
          have HDA := fun cs => hid (HD.out.alloc (.cells cs 48))
          have HSZ := fun cs => hid ((HB.out.alloc HB.out.size (.cells cs 48)).size)
          go_wp2_with (at_builtin; refine wpList_append_do rfl (.tmp 77) (.tmp 79) rfl W.heap.size _ j xs rfl (HDA _).out 1 _ _ rfl (Blk.new wo 48 _) rfl rfl (by omega) (HSZ _).out W (HBA _).out ?_)
          intro A2 c2 w2 h1 h2 hd hb
          have HD2 := hid hd; have HB2 := hid hb
          clear hd hb h1 h2 HBA HDA HSZ
          go_wp2
          go_roundw
          case rel => exact ⟨j + 1, A2, c2, _, by omega, by go_num, rfl, HD2, HB2⟩
          case measure => simp [intOf]; omega
        · have hB2 := hid HB.out.size
          go_wp2_with fail
          go_loopw [7, 9] (fun l i wr => ∃ (q N : Nat) (A : Option Addr) (c : Nat) (xs : List Value), q ≤ 10 ∧ N ≤ 10 + 4 * q ∧ i = .int .i64 q ∧ l = .slice A N c ∧ Hid (Dl wr W.heap.size (.slice A N c) N xs) ∧ Hid (Below W.heap.size W wr)) (fun _ i _ => 10 - (intOf i).toNat)
          case atStart => exact ⟨0, j, A, c, xs, Nat.zero_le _, by omega, rfl, rfl, HD, HB⟩
          case round =>
            clear HD HB hB hB2
            obtain ⟨q, N, A, c, xs, hq, hN, rfl, rfl, HD, HB⟩ := hrel
            obtain ⟨wo, rfl⟩ : ∃ wo : World, wo = wr := ⟨_, rfl⟩
            by_cases hlt2 : q < 10
            · have HBA := fun cs => hid (HB.out.alloc HB.out.size (.cells cs 48))
              have HDA := fun cs => hid (HD.out.alloc (.cells cs 48))
              have HSZ := fun cs => hid ((HB.out.alloc HB.out.size (.cells cs 48)).size)
              go_wp2_with (at_builtin; refine wpList_append_do rfl (.tmp 85) (.tmp 97) rfl W.heap.size _ N xs rfl (HDA _).out 4 _ _ rfl (Blk.new wo 48 _) rfl rfl (by omega) (HSZ _).out W (HBA _).out ?_)
              intro A2 c2 w2 h1 h2 hd hb
              have HD2 := hid hd; have HB2 := hid hb
              clear hd hb h1 h2 HBA HDA HSZ
              go_wp2
              go_roundw
              case rel => exact ⟨q + 1, N + 4, A2, c2, _, by omega, by omega, by go_num, rfl, HD2, HB2⟩
              case measure => simp [intOf]; omega
            · have HBA := fun cs => hid (HB.out.alloc HB.out.size (.cells cs 48))
              have HDA := fun cs => hid (HD.out.alloc (.cells cs 48))
              have HSZ := fun cs => hid ((HB.out.alloc HB.out.size (.cells cs 48)).size)
              go_wp2_with (at_builtin; refine wpList_append_do rfl (.tmp 99) (.tmp 108) rfl W.heap.size _ N xs rfl (HDA _).out 8 _ _ rfl (Blk.new wo 48 _) rfl rfl (by omega) (HSZ _).out W (HBA _).out ?_)
              intro A2 c2 w2 h1 h2 hd hb
              have HD2 := hid hd; have HB2 := hid hb
              clear hd hb h1 h2 HBA HDA HSZ
              go_wp2
              go_loopw [7, 10] (fun l i wr => ∃ (r N : Nat) (A : Option Addr) (c : Nat) (xs : List Value), r ≤ 20 ∧ N ≤ 58 + 2 * r ∧ i = .int .i64 r ∧ l = .slice A N c ∧ Hid (Dl wr W.heap.size (.slice A N c) N xs) ∧ Hid (Below W.heap.size W wr)) (fun _ i _ => 20 - (intOf i).toNat)
              case atStart => exact ⟨0, N + 8, A2, c2, _, Nat.zero_le _, by omega, rfl, rfl, HD2, HB2⟩
              case round =>
                clear HD HB HD2 HB2
                obtain ⟨r, N, A, c, xs, hr, hN, rfl, rfl, HD, HB⟩ := hrel
                obtain ⟨wo, rfl⟩ : ∃ wo : World, wo = wr := ⟨_, rfl⟩
                by_cases hlt3 : r < 20
                · have HBA := fun cs => hid (HB.out.alloc HB.out.size (.cells cs 48))
                  have HDA := fun cs => hid (HD.out.alloc (.cells cs 48))
                  have HSZ := fun cs => hid ((HB.out.alloc HB.out.size (.cells cs 48)).size)
                  go_wp2_with (at_builtin; refine wpList_append_do rfl (.tmp 114) (.tmp 121) rfl W.heap.size _ N xs rfl (HDA _).out 2 _ _ rfl (Blk.new wo 48 _) rfl rfl (by omega) (HSZ _).out W (HBA _).out ?_)
                  intro A2 c2 w2 h1 h2 hd hb
                  have HD2 := hid hd; have HB2 := hid hb
                  clear hd hb h1 h2 HBA HDA HSZ
                  go_wp2
                  go_roundw
                  case rel => exact ⟨r + 1, N + 2, A2, c2, _, by omega, by omega, by go_num, rfl, HD2, HB2⟩
                  case measure => simp [intOf]; omega
                · go_wp2_with fail
                  go_loopw [11, 12] (fun l i wr => ∃ (t : Nat) (B : Option Addr) (d : Nat) (ys : List Value), t ≤ 258 ∧ i = .int .i64 t ∧ l = .slice B t d ∧ Hid (Dl wr wo.heap.size (.slice B t d) t ys) ∧ Hid (Firsts ys t) ∧ Hid (Below wo.heap.size wo wr)) (fun _ i _ => 258 - (intOf i).toNat)
                  case atStart => exact ⟨0, none, 0, [], Nat.zero_le _, rfl, rfl, Dl.nil _ _, fun j hj => absurd hj (by omega), Below.refl _ _⟩
                  case round =>
                    obtain ⟨t, B, d, ys, ht, rfl, rfl, HE, HFi, HC⟩ := hrel
                    obtain ⟨wp, rfl⟩ : ∃ wp : World, wp = wr := ⟨_, rfl⟩
                    by_cases hlt4 : t < 258
                    · have HCA := fun cs => hid (HC.out.alloc HC.out.size (.cells cs 48))
                      have HEA := fun cs => hid (HE.out.alloc (.cells cs 48))
                      have HSZ := fun cs => hid ((HC.out.alloc HC.out.size (.cells cs 48)).size)
                      go_wp2_with (at_builtin; refine wpList_append_do rfl (.tmp 127) (.tmp 130) rfl wo.heap.size _ t ys rfl (HEA _).out 1 _ _ rfl (Blk.new wp 48 _) rfl rfl (by omega) (HSZ _).out wo (HCA _).out ?_)
                      intro A2 c2 w2 h1 h2 hd hb
                      have HD2 := hid hd; have HB2 := hid hb; have HF2 := hid (HFi.out.step HE.out.own.1 (.int .i64 (t : Int)))
                      clear hd hb h1 h2 HCA HEA HSZ
                      go_wp2
                      go_roundw
                      case rel => exact ⟨t + 1, A2, c2, _, by omega, by go_num, rfl, HD2, HF2, HB2⟩
                      case measure => simp [intOf]; omega
                    · have HCA := fun cs => hid (HC.out.alloc HC.out.size (.cells cs 48))
                      have HEA := fun cs => hid (HE.out.alloc (.cells cs 48))
                      have HSZ := fun cs => hid ((HC.out.alloc HC.out.size (.cells cs 48)).size)
                      go_wp2_with (at_builtin; refine wpList_append_do rfl (.tmp 132) (.tmp 138) rfl wo.heap.size _ t ys rfl (HEA _).out 5 _ _ rfl (Blk.new wp 48 _) rfl rfl (by omega) (HSZ _).out wo (HCA _).out ?_)
                      intro A2 c2 w2 h1 h2 hd hb
                      have HMa := hid (hd.many (fun j hj => (HFi.out.more HE.out.own.1) j (by omega)))
                      have HDm := hid hd.dos
                      have HDl := hid ((HD.out.below hb).dos)
                      have HB2 := hid (HB.out.trans (hb.mono HB.out.size))
                      have HM := hid (Nat.le_trans h1 h2)
                      clear hd hb h1 h2 HCA HEA HSZ HD HB HE HFi HC
                      go_wp2_with fail
                      refine (works10 _).mono ?_
                      rintro e w3 ⟨rfl, hb⟩
                      have HMa := hid (HMa.out.below hb); have HDm := hid (HDm.out.below hb); have HDl := hid (HDl.out.below hb); have HB2 := hid (below_trans' HB2.out hb)
                      clear hb
                      go_wp2_with fail
                      refine (gracePlays_any 0 none 0 0 _ (Dos.nil _)).mono ?_
                      rintro e w3 ⟨rfl, hb⟩
                      have HMa := hid (HMa.out.below hb); have HDm := hid (HDm.out.below hb); have HDl := hid (HDl.out.below hb); have HB2 := hid (below_trans' HB2.out hb)
                      clear hb
                      go_wp2_with fail
                      refine (gracePlays_any 9 A N c _ HDl.out).mono ?_
                      rintro e w3 ⟨rfl, hb⟩
                      have HMa := hid (HMa.out.below hb); have HDm := hid (HDm.out.below hb); have HDl := hid (HDl.out.below hb); have HB2 := hid (below_trans' HB2.out hb)
                      clear hb
                      go_wp2_with fail
                      refine (gracePlays_any 2 A N c _ HDl.out).mono ?_
                      rintro e w3 ⟨rfl, hb⟩
                      have HMa := hid (HMa.out.below hb); have HDm := hid (HDm.out.below hb); have HDl := hid (HDl.out.below hb); have HB2 := hid (below_trans' HB2.out hb)
                      clear hb
                      go_wp2_with fail
                      refine (gracePlays_any 3 A N c _ HDl.out).mono ?_
                      rintro e w3 ⟨rfl, hb⟩
                      have HMa := hid (HMa.out.below hb); have HDm := hid (HDm.out.below hb); have HDl := hid (HDl.out.below hb); have HB2 := hid (below_trans' HB2.out hb)
                      clear hb
                      go_wp2_with fail
                      refine (gracePlays_any 8 A N c _ HDl.out).mono ?_
                      rintro e w3 ⟨rfl, hb⟩
                      have HMa := hid (HMa.out.below hb); have HDm := hid (HDm.out.below hb); have HDl := hid (HDl.out.below hb); have HB2 := hid (below_trans' HB2.out hb)
                      clear hb
                      go_wp2_with fail
                      refine (gracePlays_any 1 A2 (t + 5) c2 _ HDm.out).mono ?_
                      rintro e w3 ⟨rfl, hb⟩
                      have HMa := hid (HMa.out.below hb); have HDm := hid (HDm.out.below hb); have HDl := hid (HDl.out.below hb); have HB2 := hid (below_trans' HB2.out hb)
                      clear hb
                      go_wp2_with fail
                      refine (graceWaits_any A N c _ HDl.out).mono ?_
                      rintro e w3 ⟨rfl, hb⟩
                      have HMa := hid (HMa.out.below hb); have HDm := hid (HDm.out.below hb); have HDl := hid (HDl.out.below hb); have HB2 := hid (below_trans' HB2.out hb)
                      clear hb
                      go_wp2_with fail
                      refine (graceEnds_many A2 (t + 5) c2 _ HMa.out (by omega) HM.out).mono ?_
                      rintro e w3 ⟨rfl, hb⟩
                      have HMa := hid (HMa.out.below hb); have HDm := hid (HDm.out.below hb); have HDl := hid (HDl.out.below hb); have HB2 := hid (below_trans' HB2.out hb)
                      clear hb
                      go_wp2_with fail
                      go_ret
                      exact ⟨rfl, HB2.out⟩
end Go.Proofs.Ytkkbgohijokbhaa
