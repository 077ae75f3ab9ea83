/- book.polled. -/
import Derived.Test.YtkkbgohijokbhaaTb
namespace Go.Proofs.Ytkkbgohijokbhaa
open Go.RowKit
open Gr (Noted)

theorem IsInts.fk {w w' : World} {base B : Nat} {v : Value} {l : List Int} (h : IsInts w base v l) (hf : Fk B w w') : IsInts w' base v l := by
  unfold IsInts at h ⊢
  exact ⟨h.1, h.2.imp id fun ⟨g, cap, cur, hv, hb, hg, r⟩ => ⟨g, cap, cur, hv, hb, Blk.fk (t := 3) (cs := cur) hg hf (by decide) (by decide), r⟩⟩
theorem IsInts.ri_ {w : World} {base N c : Nat} {A : Option Addr} {l : List Int} (h : IsInts w base (.slice A N c) l) : RI w A N l := by
  obtain ⟨_, _, _, hv, -, -, -, hr⟩ := h.ri
  cases hv; exact hr

theorem upd_upd {L : Nat → List Noted} {c : Nat} {l l' : List Noted} (j : Nat) : Gr.upd (Gr.upd L c l) c l' j = Gr.upd L c l' j := by
  unfold Gr.upd
  split <;> rfl
theorem list8 {d : List Bool} (hd : d.length = 8) : ∃ a b c d0 e f g h, d = [a, b, c, d0, e, f, g, h] := by
  match d, hd with
  | [a, b, c, d0, e, f, g, h], _ => exact ⟨a, b, c, d0, e, f, g, h, rfl⟩

set_option maxHeartbeats 3200000 in
theorem polled_any (k c B base : Nat) (d : List Int) (V : Nat → Value) (L : Nat → List Noted) (w : World) (h : BRep w B k d V L) (hc : c < 3) (_hB : B ≤ w.heap.size) (ids : List Int) (A : Option Addr) (N cp : Nat) (hI : IsInts w base (.slice A N cp) ids)
    (hN : N ≤ (L c).length) (hN2 : (L c).length ≤ maxLen) (hids : ∀ (i : Nat) (x : Int), ids[i]? = some x → ∃ p : Noted, (L c)[i]? = some p ∧ p.1.1 = x ∧ ∀ j, j < 3 → p.2.1.getD j false = false ∧ p.2.2.getD j false = false) :
    Calls Try.prog 59 #[.pointer (some ⟨k, 0, none⟩), .int .i64 (c : Int), .slice A N cp] w fun e w' => e = .returned (.bool true) ∧ ∃ V', BRep w' B k d V' (Gr.upd L c ((L c).drop N)) ∧ Fk B w w' := by
  have H := hid h; have HI := hid hI; have HD := hid hids
  have HNL := hid hI.ri_.1
  unfold maxLen at hN2
  clear h hI hids
  go_enter Try.func59, Try.ntmps59
  go_wp2_with fail
  go_loopw [7] (fun i wr => ∃ (j : Nat) (V' : Nat → Value), j ≤ N ∧ i = .int .i64 j ∧ Hid (BRep wr B k d V' (Gr.upd L c ((L c).drop j))) ∧ Hid (Fk B w wr) ∧ Hid (IsInts wr base (.slice A N cp) ids)) (fun i _ => N - (intOf i).toNat)
  case atStart => exact ⟨0, V, Nat.zero_le _, rfl, H.out.congr fun j _ => by unfold Gr.upd; split <;> simp_all, Fk.refl _ _, HI⟩
  case round =>
    obtain ⟨j, V', hj, rfl, HB, HF, HII⟩ := hrel
    by_cases hlt : j < N
    · obtain ⟨x, hx⟩ : ∃ x, ids[j]? = some x := ⟨_, List.getElem?_eq_getElem (by rw [← HNL.out]; exact hlt)⟩
      obtain ⟨p, hp, hpx, hfl⟩ := HD.out j x hx
      obtain ⟨⟨id, t⟩, ins, sil⟩ := p
      obtain rfl : id = x := hpx
      have hself : Gr.upd L c ((L c).drop j) c = (L c).drop j := if_pos rfl
      have hp0 : ((L c).drop j)[0]? = some ((id, t), ins, sil) := by rw [List.getElem?_drop]; simpa using hp
      obtain ⟨g, o, cc, hv, -, q1, q2, hfz, hcell, -⟩ := (HB.out.row c hc).at_ (m := 0) (by rw [hself]; exact hp0)
      rw [hself] at hv
      obtain ⟨n, hn⟩ : ∃ n, n = ((L c).drop j).length := ⟨_, rfl⟩
      rw [← hn] at hv
      have hn1 : 0 < n := by rw [hn, List.length_drop]; omega
      have hn2 : n ≤ 9223372036854775807 := by rw [hn, List.length_drop]; omega
      have HN := hid hn
      have c1 := HB.out.callsAt hc
      rw [hv] at c1
      have c2 := hcell 0 _ rfl
      obtain ⟨a0, a1, a2, a3, a4, a5, a6, a7, rfl⟩ := list8 q1
      obtain ⟨s0, s1, s2, s3, s4, s5, s6, s7, rfl⟩ := list8 q2
      obtain ⟨f0, g0⟩ := hfl 0 (by omega)
      obtain ⟨f1, g1⟩ := hfl 1 (by omega)
      obtain ⟨f2, g2⟩ := hfl 2 (by omega)
      simp at f0 g0 f1 g1 f2 g2
      subst f0; subst g0; subst f1; subst g1; subst f2; subst g2
      have d1 := hcell 1 _ rfl
      have d2 := hcell 2 _ rfl
      have d3 := hcell 3 _ rfl
      have d4 := hcell 4 _ rfl
      have d5 := hcell 5 _ rfl
      have d6 := hcell 6 _ rfl
      have d7 := hcell 7 _ rfl
      have d8 := hcell 8 _ rfl
      have d9 := hcell 9 _ rfl
      have d10 := hcell 10 _ rfl
      have d11 := hcell 11 _ rfl
      have d12 := hcell 12 _ rfl
      have d13 := hcell 13 _ rfl
      have d14 := hcell 14 _ rfl
      have d15 := hcell 15 _ rfl
      have d16 := hcell 16 _ rfl
      simp only [Nat.zero_mul, Nat.add_zero] at c2 d1 d2 d3 d4 d5 d6 d7 d8 d9 d10 d11 d12 d13 d14 d15 d16
      clear hcell hfl q1 q2 hp hp0 hfz
      obtain ⟨b, oo, rfl, hbb, c3⟩ := HII.out.ri_.get j _ hx
      have b1 : ((n : Int) == 0) = false := by rw [beq_eq_false_iff_ne]; omega
      have HV := hid hv
      clear hn hv hself
      go_wp2_with fail
      go_quiet (fail)
      obtain ⟨w4, hw4⟩ : ∃ w4, w4 = wr.drewN nq := ⟨_, rfl⟩
      have HB4 : Hid (BRep w4 B k d V' (Gr.upd L c ((L c).drop j))) := by rw [hw4]; exact HB.out.drewN nq
      have HF4 : Hid (Fk B w w4) := by rw [hw4]; exact HF.out.drewN nq
      have HI4 : Hid (IsInts w4 base (.slice (some ⟨b, oo, none⟩) N cp) ids) := by rw [hw4]; exact HII.out
      have ew : ∀ a, wr.cell? a = w4.cell? a := fun a => by rw [hw4]; rfl
      rw [ew] at c1 c2 d1 d2 d3 d4 d5 d6 d7 d8 d9 d10 d11 d12 d13 d14 d15 d16
      rw [← hw4]
      clear hw4 ew c3 hbb HB HF HII
      go_wp2_with fail
      have HBl : Hid (Below w4.heap.size w4 (w4.alloc (.cells #[.int .i64 id, .bool false, .bool false, .bool false, .bool a3, .bool a4, .bool a5, .bool a6, .bool a7, .bool false, .bool false, .bool false, .bool s3, .bool s4, .bool s5, .bool s6, .bool s7] 86))) := hid ((Below.refl _ _).alloc (Nat.le_refl _) _)
      have HX := hid (Blk.new w4 86 #[.int .i64 id, .bool false, .bool false, .bool false, .bool a3, .bool a4, .bool a5, .bool a6, .bool a7, .bool false, .bool false, .bool false, .bool s3, .bool s4, .bool s5, .bool s6, .bool s7])
      obtain ⟨X, hX⟩ : ∃ X, X = w4.heap.size := ⟨_, rfl⟩
      rw [← hX] at HX ⊢
      obtain ⟨w5, hw5⟩ : ∃ w5, w5 = w4.alloc (.cells #[.int .i64 id, .bool false, .bool false, .bool false, .bool a3, .bool a4, .bool a5, .bool a6, .bool a7, .bool false, .bool false, .bool false, .bool s3, .bool s4, .bool s5, .bool s6, .bool s7] 86) := ⟨_, rfl⟩
      rw [← hw5] at HX HBl ⊢
      have HB5 := hid (HB4.out.below HBl.out)
      have HF5 := hid (HF4.out.trans (Fk.of_below HBl.out B))
      have HI5 := hid (HI4.out.below HBl.out)
      clear hX hw5 HBl HB4 HF4 HI4 c1 c2 d1 d2 d3 d4 d5 d6 d7 d8 d9 d10 d11 d12 d13 d14 d15 d16 hx
      go_loopw [9] (fun i wq => ∃ m : Nat, m ≤ 3 ∧ i = .int .i64 m ∧ wq = w5) (fun i _ => 3 - (intOf i).toNat)
      case atStart => exact ⟨0, Nat.zero_le _, rfl, rfl⟩
      case round =>
        obtain ⟨m, hm, rfl, rfl⟩ := hrel
        by_cases hlt2 : m < 3
        · have e1 : wr.cell? ⟨X, 1 + m, none⟩ = some (.bool false) := by
            rw [HX.out.cell]
            rcases three hlt2 with rfl | rfl | rfl <;> rfl
          have e2 : wr.cell? ⟨X, 9 + m, none⟩ = some (.bool false) := by
            rw [HX.out.cell]
            rcases three hlt2 with rfl | rfl | rfl <;> rfl
          go_wp2_with fail
          go_roundw
          case rel => exact ⟨m + 1, by omega, by go_num, trivial⟩
          case measure => simp [intOf]; omega
        · have c1 := HB5.out.callsAt hc
          rw [HV.out] at c1
          have hfk := HB5.out.frozen (3 + c)
          have hn3 : (1 : Int) ≤ (n : Int) := by omega
          have HR : Hid (RVal wr B (.slice (if cc = 1 then some ⟨g, o, none⟩ else (some (⟨g, o, none⟩ : Addr)).map (·.add 17)) (n - 1) (cc - 1)) ((L c).drop (j + 1))) := by
            have hr := HB5.out.row c hc
            rw [HV.out, show Gr.upd L c ((L c).drop j) c = (L c).drop j from if_pos rfl] at hr
            have := hr.drop (by omega)
            rwa [List.drop_drop] at this
          have HA : Hid (∀ j, j < 3 → j ≠ c → (V' j).ownBlock ≠ some g) := hid fun j hj hjc => HB5.out.apart c j hc hj (by omega) g (by rw [HV.out]; rfl)
          by_cases hcc : cc = 1
          · subst hcc
            have HR1 : Hid (RVal wr B (.slice (some ⟨g, o, none⟩) (n - 1) 0) ((L c).drop (j + 1))) := hid (by simpa using HR.out)
            clear HR
            go_wp2_with fail
            go_region
            have HS := hid ((HB5.out.setRow hc _ _ HR1.out (fun g' hg' => by injection hg' with hg'; subst hg'; exact HA.out)).drew.congr fun j' _ => upd_upd (l' := (L c).drop (j + 1)) j')
            have HFS := hid (HF5.out.trans (HB5.out.fk_k (3 + c) (.slice (some ⟨g, o, none⟩) (n - 1) 0))).drew
            have HIS : Hid (IsInts (wr.setCell ⟨k, 3 + c, none⟩ (.slice (some ⟨g, o, none⟩) (n - 1) 0)).drew base (.slice (some ⟨b, oo, none⟩) N cp) ids) := hid (HI5.out.fk (HB5.out.fk_k (3 + c) (.slice (some ⟨g, o, none⟩) (n - 1) 0)).drew)
            go_wp2_with fail
            go_roundw
            case rel => exact ⟨j + 1, _, by omega, by go_num, HS, HFS, HIS⟩
            case measure => simp [intOf]; omega
          · have HR1 : Hid (RVal wr B (.slice (some ⟨g, o + 17, none⟩) (n - 1) (cc - 1)) ((L c).drop (j + 1))) := by
              have := HR.out
              rw [if_neg hcc] at this
              exact hid (by simpa [Addr.add] using this)
            clear HR
            go_wp2_with fail
            go_region
            have HS := hid ((HB5.out.setRow hc _ _ HR1.out (fun g' hg' => by injection hg' with hg'; subst hg'; exact HA.out)).drew.congr fun j' _ => upd_upd (l' := (L c).drop (j + 1)) j')
            have HFS := hid (HF5.out.trans (HB5.out.fk_k (3 + c) (.slice (some ⟨g, o + 17, none⟩) (n - 1) (cc - 1)))).drew
            have HIS : Hid (IsInts (wr.setCell ⟨k, 3 + c, none⟩ (.slice (some ⟨g, o + 17, none⟩) (n - 1) (cc - 1))).drew base (.slice (some ⟨b, oo, none⟩) N cp) ids) := hid (HI5.out.fk (HB5.out.fk_k (3 + c) (.slice (some ⟨g, o + 17, none⟩) (n - 1) (cc - 1))).drew)
            go_wp2_with fail
            go_roundw
            case rel => exact ⟨j + 1, _, by omega, by go_num, HS, HFS, HIS⟩
            case measure => simp [intOf]; omega
    · obtain rfl : j = N := by omega
      go_wp2_with fail
      go_ret
      exact ⟨rfl, _, HB.out, HF.out⟩
end Go.Proofs.Ytkkbgohijokbhaa
