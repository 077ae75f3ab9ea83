/- GuardTold as a call. -/
import Derived.Test.YtfnnfnklhejlmaaV
namespace Go.Proofs.Ytfnnfnklhejlmaa
open Go.RowKit

theorem getD_byte {l : List Int} (h : Byte l) (p : Nat) : 0 ≤ l.getD p 0 ∧ l.getD p 0 < 256 := by
  rw [List.getD_eq_getElem?_getD]
  by_cases hp : p < l.length
  · rw [List.getElem?_eq_getElem hp]
    exact h _ (List.getElem_mem hp)
  · rw [List.getElem?_eq_none (by omega)]
    decide
theorem turn_in {k p : Nat} {a T : Int} (h1 : 1 ≤ k) (h2 : k ≤ 1024) (hp : p < k + 16) (ha : (inL k).getD p 0 = a) (hT : 1 ≤ T) (hT2 : T < 256) : chk ((inL k).set p (bits .xor .u8 a T)) false = ((p : Int), 180) := by
  have hb := getD_byte (byte_inL k) p
  rw [ha] at hb
  exact chk_in_set h1 h2 hp (by rw [ha]; exact xor_ne hb.1 hb.2 hT hT2)
theorem turn_out {k p : Nat} {a T : Int} (h1 : 1 ≤ k) (h2 : k ≤ 1024) (hp : p < k + 16) (hp2 : p < 8 ∨ k + 8 ≤ p) (ha : (laidL k 204 90).getD p 0 = a) (hT : 1 ≤ T) (hT2 : T < 256) : chk ((laidL k 204 90).set p (bits .xor .u8 a T)) true = ((p : Int), 180) := by
  obtain rfl : a = 204 := by
    rw [← ha, List.getD_eq_getElem?_getD, laidL_get _ _ _ _ hp, if_pos hp2]; rfl
  exact (outOk_laid k).chk_set h1 h2 hp hp2 (xor_ne (by omega) (by omega) hT hT2)
theorem turn_mid {k p : Nat} {x : Int} (h1 : 1 ≤ k) (h2 : k ≤ 1024) (hp : 8 ≤ p) (hp2 : p < k + 8) : chk ((laidL k 204 90).set p x) true = (0, 0) := ((outOk_laid k).set p x hp hp2).chk h1 h2
theorem turnE_of {l : List Int} {out : Bool} {i e : Int} (h : chk l out = (i, e)) : turnE l out = e := by unfold turnE; rw [h]
theorem outA_nil {l : List Int} {i : Int} (h : chk l false = (i, 180)) : outA l = [] := by unfold outA; rw [h]; rfl
theorem backA_nil {l : List Int} {i : Int} (h : chk l true = (i, 180)) : backA l = [] := by unfold backA; rw [h]; rfl

set_option maxHeartbeats 3200000 in
set_option maxRecDepth 100000 in
theorem guardTold_zero (size pos t : Int) (W : World) (ht : t < 1) : Calls Try.prog 7 #[.int .i64 size, .int .i64 pos, .int .u8 t] W fun e w' => e = .returned (.bool true) ∧ Below W.heap.size W w' := by
  obtain ⟨k, hk, hk2⟩ := bring_nat size 1024 (by omega)
  obtain ⟨p, hp, hp2⟩ := bring_nat pos (1 + (k : Int) + 16) (by omega)
  have HK := hid hk; have HP := hid hp
  have hk3 : k < 1024 := by omega
  have hp3 : p < k + 17 := by omega
  clear hk hp
  go_enter Try.func7, Try.ntmps7
  go_wp2_with fail
  refine (bring_at k size 1024 (by omega) (by omega) HK.out _).mono ?_
  rintro e w2 ⟨rfl, rfl⟩
  go_wp2_with fail
  refine (lay_at 0 (inL (k + 1)) _ _ (layE_in k hk3) (layL_in k hk3)).mono ?_
  rintro e w3 ⟨A3, N3, c3, rfl, hrow⟩
  obtain rfl : N3 = k + 17 := by rw [hrow.len, inL_length]
  have B3 := hid hrow.below; have R3 := hid hrow
  clear hrow
  go_wp2_with fail
  refine (out_at 0 (laidL (k + 1) 204 90) A3 (k + 17) c3 (inL (k + 1)) _ R3.out.rb (Nat.le_trans R3.out.le R3.out.max) R3.out.le (turnE_in (by omega) (by omega)) (outA_in (by omega) (by omega))).mono ?_
  rintro e w4 ⟨A4, N4, c4, rfl, hrow⟩
  obtain rfl : N4 = k + 17 := by rw [hrow.len, laidL_length]
  have B4 := hid (below_trans' B3.out hrow.below); have R4 := hid hrow
  have I3 := hid (R3.out.own.below hrow.below)
  have D4 : Hid (∀ b o b' o', A4 = some ⟨b, o, none⟩ → A3 = some ⟨b', o', none⟩ → b ≠ b') := hid (fun b o b' o' e1 e2 => by
    have := (R3.out.own.block b' o' e2).2
    have := (hrow.own.block b o e1).1
    omega)
  clear hrow
  have hlen : ((k : Int) + 17 != 1 + (k : Int) + 16) = false := by rw [bne_eq_false_iff_eq]; omega
  go_wp2_with fail
  refine (bring_at p pos (1 + (k : Int) + 16) (by omega) (by omega) HP.out _).mono ?_
  rintro e w5 ⟨rfl, rfl⟩
  clear hlen
  obtain ⟨a, ha⟩ : ∃ a, (inL (k + 1)).getD p 0 = a := ⟨_, rfl⟩
  obtain ⟨b, hb⟩ : ∃ b, (laidL (k + 1) 204 90).getD p 0 = b := ⟨_, rfl⟩
  obtain ⟨g, hA3, hg, hc, hf, hs⟩ := I3.out.poke (k := p) hp3 (bits .xor .u8 a 1)
  have I4 := R4.out.own.far ⟨g, p, none⟩ (fun b o h => D4.out b o g 0 h hA3) (.int .u8 (bits .xor .u8 a 1))
  obtain ⟨g', hA4, hg', hc', hf', hs'⟩ := I4.poke (k := p) hp3 (bits .xor .u8 b 1)
  have hgg : g' ≠ g := D4.out g' 0 g 0 hA4 hA3
  have J3 := hid (hs.far ⟨g', p, none⟩ (fun b o h => by rw [hA3] at h; cases h; exact fun h => hgg h.symm) (.int .u8 (bits .xor .u8 b 1)))
  have J4 := hid hs'
  have JB := hid ((B4.out.setCell (p := ⟨g, p, none⟩) hg (.int .u8 (bits .xor .u8 a 1))).setCell (p := ⟨g', p, none⟩) (Nat.le_trans B3.out.size hg') (.int .u8 (bits .xor .u8 b 1)))
  have K3 := hid (turn_in (k := k + 1) (T := 1) (by omega) (by omega) hp3 ha (by omega) (by omega))
  have M3 := hid (Nat.le_trans R3.out.le R3.out.max); have M4 := hid (Nat.le_trans R4.out.le R4.out.max)
  have L3 := hid R3.out.le; have L4 := hid R4.out.le
  rw [ha] at hc
  rw [hb] at hc'
  have HBB := hid hb
  subst hA3; subst hA4
  clear hs hs' I4 I3 D4 hgg ha hb R3 R4
  rcases (by omega : (8 ≤ p ∧ p < k + 9) ∨ p < 8 ∨ k + 9 ≤ p) with ⟨q1, q2⟩ | q | q
  · have K4 := hid (turn_mid (k := k + 1) (x := bits .xor .u8 b 1) (by omega) (by omega) q1 (by omega : p < k + 1 + 8))
    have f1 : (8 : Int) ≤ (p : Int) := by omega
    have f2 : (p : Int) < 1 + (k : Int) + 8 := by omega
    go_wp2_with fail
    refine (check_at (p : Int) 180 _ (k + 17) c3 false _ _ J3.out.rb_ M3.out L3.out K3.out).mono ?_
    rintro e w6 ⟨rfl, hb6⟩
    have J36 := hid (J3.out.below hb6); have J46 := hid (J4.out.below hb6); have JB6 := hid (below_trans' JB.out hb6)
    clear hb6 hc hf hc' hf' J3 J4 JB
    go_wp2_with fail
    refine (check_at 0 0 _ (k + 17) c4 true _ _ J46.out.rb_ M4.out L4.out K4.out).mono ?_
    rintro e w7 ⟨rfl, hb7⟩
    have J37 := hid (J36.out.below hb7); have J47 := hid (J46.out.below hb7); have JB7 := hid (below_trans' JB6.out hb7)
    clear hb7 J36 J46 JB6
    go_wp2_with fail
    refine (out_at 180 [] _ (k + 17) c3 _ _ J37.out.rb_ M3.out L3.out (turnE_of K3.out) (outA_nil K3.out)).mono ?_
    rintro e w8 ⟨A8, N8, c8, rfl, hrow⟩
    have J48 := hid (J47.out.below hrow.below); have JB8 := hid (below_trans' JB7.out hrow.below)
    clear hrow J37 J47 JB7
    go_wp2_with fail
    refine (back_at 0 (inL (k + 1)) _ (k + 17) c4 _ _ J48.out.rb_ M4.out L4.out (turnE_of K4.out) (backA_out ((outOk_laid (k + 1)).set p _ q1 (by omega)) (by omega) (by omega))).mono ?_
    rintro e w9 ⟨A9, N9, c9, rfl, hrow⟩
    have JB9 := hid (below_trans' JB8.out hrow.below)
    clear hrow J48 JB8
    go_wp2_with fail
    refine (works_any _).mono ?_
    rintro e w10 ⟨rfl, hb10⟩
    have JB10 := hid (below_trans' JB9.out hb10)
    clear hb10 JB9
    go_wp2_with fail
    go_ret
    exact ⟨rfl, JB10.out⟩
  · have K4 := hid (turn_out (k := k + 1) (T := 1) (by omega) (by omega) hp3 (by omega) HBB.out (by omega) (by omega))
    have f1 : ¬ (8 : Int) ≤ (p : Int) := by omega
    go_wp2_with fail
    refine (check_at (p : Int) 180 _ (k + 17) c3 false _ _ J3.out.rb_ M3.out L3.out K3.out).mono ?_
    rintro e w6 ⟨rfl, hb6⟩
    have J36 := hid (J3.out.below hb6); have J46 := hid (J4.out.below hb6); have JB6 := hid (below_trans' JB.out hb6)
    clear hb6 hc hf hc' hf' J3 J4 JB
    go_wp2_with fail
    refine (check_at (p : Int) 180 _ (k + 17) c4 true _ _ J46.out.rb_ M4.out L4.out K4.out).mono ?_
    rintro e w7 ⟨rfl, hb7⟩
    have J37 := hid (J36.out.below hb7); have J47 := hid (J46.out.below hb7); have JB7 := hid (below_trans' JB6.out hb7)
    clear hb7 J36 J46 JB6
    go_wp2_with fail
    refine (out_at 180 [] _ (k + 17) c3 _ _ J37.out.rb_ M3.out L3.out (turnE_of K3.out) (outA_nil K3.out)).mono ?_
    rintro e w8 ⟨A8, N8, c8, rfl, hrow⟩
    have J48 := hid (J47.out.below hrow.below); have JB8 := hid (below_trans' JB7.out hrow.below)
    clear hrow J37 J47 JB7
    go_wp2_with fail
    refine (back_at 180 [] _ (k + 17) c4 _ _ J48.out.rb_ M4.out L4.out (turnE_of K4.out) (backA_nil K4.out)).mono ?_
    rintro e w9 ⟨A9, N9, c9, rfl, hrow⟩
    have JB9 := hid (below_trans' JB8.out hrow.below)
    clear hrow J48 JB8
    go_wp2_with fail
    refine (works_any _).mono ?_
    rintro e w10 ⟨rfl, hb10⟩
    have JB10 := hid (below_trans' JB9.out hb10)
    clear hb10 JB9
    go_wp2_with fail
    go_ret
    exact ⟨rfl, JB10.out⟩
  · have K4 := hid (turn_out (k := k + 1) (T := 1) (by omega) (by omega) hp3 (by omega) HBB.out (by omega) (by omega))
    have f1 : (8 : Int) ≤ (p : Int) := by omega
    have f2 : ¬ (p : Int) < 1 + (k : Int) + 8 := by omega
    go_wp2_with fail
    refine (check_at (p : Int) 180 _ (k + 17) c3 false _ _ J3.out.rb_ M3.out L3.out K3.out).mono ?_
    rintro e w6 ⟨rfl, hb6⟩
    have J36 := hid (J3.out.below hb6); have J46 := hid (J4.out.below hb6); have JB6 := hid (below_trans' JB.out hb6)
    clear hb6 hc hf hc' hf' J3 J4 JB
    go_wp2_with fail
    refine (check_at (p : Int) 180 _ (k + 17) c4 true _ _ J46.out.rb_ M4.out L4.out K4.out).mono ?_
    rintro e w7 ⟨rfl, hb7⟩
    have J37 := hid (J36.out.below hb7); have J47 := hid (J46.out.below hb7); have JB7 := hid (below_trans' JB6.out hb7)
    clear hb7 J36 J46 JB6
    go_wp2_with fail
    refine (out_at 180 [] _ (k + 17) c3 _ _ J37.out.rb_ M3.out L3.out (turnE_of K3.out) (outA_nil K3.out)).mono ?_
    rintro e w8 ⟨A8, N8, c8, rfl, hrow⟩
    have J48 := hid (J47.out.below hrow.below); have JB8 := hid (below_trans' JB7.out hrow.below)
    clear hrow J37 J47 JB7
    go_wp2_with fail
    refine (back_at 180 [] _ (k + 17) c4 _ _ J48.out.rb_ M4.out L4.out (turnE_of K4.out) (backA_nil K4.out)).mono ?_
    rintro e w9 ⟨A9, N9, c9, rfl, hrow⟩
    have JB9 := hid (below_trans' JB8.out hrow.below)
    clear hrow J48 JB8
    go_wp2_with fail
    refine (works_any _).mono ?_
    rintro e w10 ⟨rfl, hb10⟩
    have JB10 := hid (below_trans' JB9.out hb10)
    clear hb10 JB9
    go_wp2_with fail
    go_ret
    exact ⟨rfl, JB10.out⟩

set_option maxHeartbeats 3200000 in
set_option maxRecDepth 100000 in
theorem guardTold_pos (size pos t : Int) (W : World) (ht : ¬ t < 1) (ht2 : t ≤ 255) : Calls Try.prog 7 #[.int .i64 size, .int .i64 pos, .int .u8 t] W fun e w' => e = .returned (.bool true) ∧ Below W.heap.size W w' := by
  obtain ⟨k, hk, hk2⟩ := bring_nat size 1024 (by omega)
  obtain ⟨p, hp, hp2⟩ := bring_nat pos (1 + (k : Int) + 16) (by omega)
  have HK := hid hk; have HP := hid hp
  have hk3 : k < 1024 := by omega
  have hp3 : p < k + 17 := by omega
  clear hk hp
  go_enter Try.func7, Try.ntmps7
  go_wp2_with fail
  refine (bring_at k size 1024 (by omega) (by omega) HK.out _).mono ?_
  rintro e w2 ⟨rfl, rfl⟩
  go_wp2_with fail
  refine (lay_at 0 (inL (k + 1)) _ _ (layE_in k hk3) (layL_in k hk3)).mono ?_
  rintro e w3 ⟨A3, N3, c3, rfl, hrow⟩
  obtain rfl : N3 = k + 17 := by rw [hrow.len, inL_length]
  have B3 := hid hrow.below; have R3 := hid hrow
  clear hrow
  go_wp2_with fail
  refine (out_at 0 (laidL (k + 1) 204 90) A3 (k + 17) c3 (inL (k + 1)) _ R3.out.rb (Nat.le_trans R3.out.le R3.out.max) R3.out.le (turnE_in (by omega) (by omega)) (outA_in (by omega) (by omega))).mono ?_
  rintro e w4 ⟨A4, N4, c4, rfl, hrow⟩
  obtain rfl : N4 = k + 17 := by rw [hrow.len, laidL_length]
  have B4 := hid (below_trans' B3.out hrow.below); have R4 := hid hrow
  have I3 := hid (R3.out.own.below hrow.below)
  have D4 : Hid (∀ b o b' o', A4 = some ⟨b, o, none⟩ → A3 = some ⟨b', o', none⟩ → b ≠ b') := hid (fun b o b' o' e1 e2 => by
    have := (R3.out.own.block b' o' e2).2
    have := (hrow.own.block b o e1).1
    omega)
  clear hrow
  have hlen : ((k : Int) + 17 != 1 + (k : Int) + 16) = false := by rw [bne_eq_false_iff_eq]; omega
  go_wp2_with fail
  refine (bring_at p pos (1 + (k : Int) + 16) (by omega) (by omega) HP.out _).mono ?_
  rintro e w5 ⟨rfl, rfl⟩
  clear hlen
  obtain ⟨a, ha⟩ : ∃ a, (inL (k + 1)).getD p 0 = a := ⟨_, rfl⟩
  obtain ⟨b, hb⟩ : ∃ b, (laidL (k + 1) 204 90).getD p 0 = b := ⟨_, rfl⟩
  obtain ⟨g, hA3, hg, hc, hf, hs⟩ := I3.out.poke (k := p) hp3 (bits .xor .u8 a t)
  have I4 := R4.out.own.far ⟨g, p, none⟩ (fun b o h => D4.out b o g 0 h hA3) (.int .u8 (bits .xor .u8 a t))
  obtain ⟨g', hA4, hg', hc', hf', hs'⟩ := I4.poke (k := p) hp3 (bits .xor .u8 b t)
  have hgg : g' ≠ g := D4.out g' 0 g 0 hA4 hA3
  have J3 := hid (hs.far ⟨g', p, none⟩ (fun b o h => by rw [hA3] at h; cases h; exact fun h => hgg h.symm) (.int .u8 (bits .xor .u8 b t)))
  have J4 := hid hs'
  have JB := hid ((B4.out.setCell (p := ⟨g, p, none⟩) hg (.int .u8 (bits .xor .u8 a t))).setCell (p := ⟨g', p, none⟩) (Nat.le_trans B3.out.size hg') (.int .u8 (bits .xor .u8 b t)))
  have K3 := hid (turn_in (k := k + 1) (T := t) (by omega) (by omega) hp3 ha (by omega) (by omega))
  have M3 := hid (Nat.le_trans R3.out.le R3.out.max); have M4 := hid (Nat.le_trans R4.out.le R4.out.max)
  have L3 := hid R3.out.le; have L4 := hid R4.out.le
  rw [ha] at hc
  rw [hb] at hc'
  have HBB := hid hb
  subst hA3; subst hA4
  clear hs hs' I4 I3 D4 hgg ha hb R3 R4
  rcases (by omega : (8 ≤ p ∧ p < k + 9) ∨ p < 8 ∨ k + 9 ≤ p) with ⟨q1, q2⟩ | q | q
  · have K4 := hid (turn_mid (k := k + 1) (x := bits .xor .u8 b t) (by omega) (by omega) q1 (by omega : p < k + 1 + 8))
    have f1 : (8 : Int) ≤ (p : Int) := by omega
    have f2 : (p : Int) < 1 + (k : Int) + 8 := by omega
    go_wp2_with fail
    refine (check_at (p : Int) 180 _ (k + 17) c3 false _ _ J3.out.rb_ M3.out L3.out K3.out).mono ?_
    rintro e w6 ⟨rfl, hb6⟩
    have J36 := hid (J3.out.below hb6); have J46 := hid (J4.out.below hb6); have JB6 := hid (below_trans' JB.out hb6)
    clear hb6 hc hf hc' hf' J3 J4 JB
    go_wp2_with fail
    refine (check_at 0 0 _ (k + 17) c4 true _ _ J46.out.rb_ M4.out L4.out K4.out).mono ?_
    rintro e w7 ⟨rfl, hb7⟩
    have J37 := hid (J36.out.below hb7); have J47 := hid (J46.out.below hb7); have JB7 := hid (below_trans' JB6.out hb7)
    clear hb7 J36 J46 JB6
    go_wp2_with fail
    refine (out_at 180 [] _ (k + 17) c3 _ _ J37.out.rb_ M3.out L3.out (turnE_of K3.out) (outA_nil K3.out)).mono ?_
    rintro e w8 ⟨A8, N8, c8, rfl, hrow⟩
    have J48 := hid (J47.out.below hrow.below); have JB8 := hid (below_trans' JB7.out hrow.below)
    clear hrow J37 J47 JB7
    go_wp2_with fail
    refine (back_at 0 (inL (k + 1)) _ (k + 17) c4 _ _ J48.out.rb_ M4.out L4.out (turnE_of K4.out) (backA_out ((outOk_laid (k + 1)).set p _ q1 (by omega)) (by omega) (by omega))).mono ?_
    rintro e w9 ⟨A9, N9, c9, rfl, hrow⟩
    have JB9 := hid (below_trans' JB8.out hrow.below)
    clear hrow J48 JB8
    go_wp2_with fail
    refine (works_any _).mono ?_
    rintro e w10 ⟨rfl, hb10⟩
    have JB10 := hid (below_trans' JB9.out hb10)
    clear hb10 JB9
    go_wp2_with fail
    go_ret
    exact ⟨rfl, JB10.out⟩
  · have K4 := hid (turn_out (k := k + 1) (T := t) (by omega) (by omega) hp3 (by omega) HBB.out (by omega) (by omega))
    have f1 : ¬ (8 : Int) ≤ (p : Int) := by omega
    go_wp2_with fail
    refine (check_at (p : Int) 180 _ (k + 17) c3 false _ _ J3.out.rb_ M3.out L3.out K3.out).mono ?_
    rintro e w6 ⟨rfl, hb6⟩
    have J36 := hid (J3.out.below hb6); have J46 := hid (J4.out.below hb6); have JB6 := hid (below_trans' JB.out hb6)
    clear hb6 hc hf hc' hf' J3 J4 JB
    go_wp2_with fail
    refine (check_at (p : Int) 180 _ (k + 17) c4 true _ _ J46.out.rb_ M4.out L4.out K4.out).mono ?_
    rintro e w7 ⟨rfl, hb7⟩
    have J37 := hid (J36.out.below hb7); have J47 := hid (J46.out.below hb7); have JB7 := hid (below_trans' JB6.out hb7)
    clear hb7 J36 J46 JB6
    go_wp2_with fail
    refine (out_at 180 [] _ (k + 17) c3 _ _ J37.out.rb_ M3.out L3.out (turnE_of K3.out) (outA_nil K3.out)).mono ?_
    rintro e w8 ⟨A8, N8, c8, rfl, hrow⟩
    have J48 := hid (J47.out.below hrow.below); have JB8 := hid (below_trans' JB7.out hrow.below)
    clear hrow J37 J47 JB7
    go_wp2_with fail
    refine (back_at 180 [] _ (k + 17) c4 _ _ J48.out.rb_ M4.out L4.out (turnE_of K4.out) (backA_nil K4.out)).mono ?_
    rintro e w9 ⟨A9, N9, c9, rfl, hrow⟩
    have JB9 := hid (below_trans' JB8.out hrow.below)
    clear hrow J48 JB8
    go_wp2_with fail
    refine (works_any _).mono ?_
    rintro e w10 ⟨rfl, hb10⟩
    have JB10 := hid (below_trans' JB9.out hb10)
    clear hb10 JB9
    go_wp2_with fail
    go_ret
    exact ⟨rfl, JB10.out⟩
  · have K4 := hid (turn_out (k := k + 1) (T := t) (by omega) (by omega) hp3 (by omega) HBB.out (by omega) (by omega))
    have f1 : (8 : Int) ≤ (p : Int) := by omega
    have f2 : ¬ (p : Int) < 1 + (k : Int) + 8 := by omega
    go_wp2_with fail
    refine (check_at (p : Int) 180 _ (k + 17) c3 false _ _ J3.out.rb_ M3.out L3.out K3.out).mono ?_
    rintro e w6 ⟨rfl, hb6⟩
    have J36 := hid (J3.out.below hb6); have J46 := hid (J4.out.below hb6); have JB6 := hid (below_trans' JB.out hb6)
    clear hb6 hc hf hc' hf' J3 J4 JB
    go_wp2_with fail
    refine (check_at (p : Int) 180 _ (k + 17) c4 true _ _ J46.out.rb_ M4.out L4.out K4.out).mono ?_
    rintro e w7 ⟨rfl, hb7⟩
    have J37 := hid (J36.out.below hb7); have J47 := hid (J46.out.below hb7); have JB7 := hid (below_trans' JB6.out hb7)
    clear hb7 J36 J46 JB6
    go_wp2_with fail
    refine (out_at 180 [] _ (k + 17) c3 _ _ J37.out.rb_ M3.out L3.out (turnE_of K3.out) (outA_nil K3.out)).mono ?_
    rintro e w8 ⟨A8, N8, c8, rfl, hrow⟩
    have J48 := hid (J47.out.below hrow.below); have JB8 := hid (below_trans' JB7.out hrow.below)
    clear hrow J37 J47 JB7
    go_wp2_with fail
    refine (back_at 180 [] _ (k + 17) c4 _ _ J48.out.rb_ M4.out L4.out (turnE_of K4.out) (backA_nil K4.out)).mono ?_
    rintro e w9 ⟨A9, N9, c9, rfl, hrow⟩
    have JB9 := hid (below_trans' JB8.out hrow.below)
    clear hrow J48 JB8
    go_wp2_with fail
    refine (works_any _).mono ?_
    rintro e w10 ⟨rfl, hb10⟩
    have JB10 := hid (below_trans' JB9.out hb10)
    clear hb10 JB9
    go_wp2_with fail
    go_ret
    exact ⟨rfl, JB10.out⟩

theorem guardTold_any (size pos t : Int) (W : World) (ht : 0 ≤ t ∧ t ≤ 255) : Calls Try.prog 7 #[.int .i64 size, .int .i64 pos, .int .u8 t] W fun e w' => e = .returned (.bool true) ∧ Below W.heap.size W w' := by
  by_cases h : t < 1
  · exact guardTold_zero size pos t W h
  · exact guardTold_pos size pos t W h ht.2
end Go.Proofs.Ytfnnfnklhejlmaa
