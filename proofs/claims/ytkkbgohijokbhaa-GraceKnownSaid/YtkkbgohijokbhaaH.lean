/- Same, EqInts. -/
import Derived.Test.YtkkbgohijokbhaaG
namespace Go.Proofs.Ytkkbgohijokbhaa
open Go.RowKit

set_option maxHeartbeats 800000 in
theorem same_any (A B : Option Addr) (n c m d : Nat) (l r : List Gr.Rec) (w : World) (hl : RD w A n l) (hr : RD w B m r) (hn : n ≤ maxLen) (_hm : m ≤ maxLen) :
    Calls Try.prog 19 #[.slice A n c, .slice B m d] w fun e w' => e = .returned (.bool (decide (l = r))) ∧ Below w.heap.size w w' := by
  have H := hid hl; have HL := hid hl.1; have HR := hid hr; have HRL := hid hr.1; clear hl hr
  unfold maxLen at hn
  by_cases hnm : n = m
  · subst hnm
    have hq : ((n : Int) != n) = false := by simp
    go_enter Try.func19, Try.ntmps19
    go_wp2
    go_loopw [5] (fun i wr => ∃ k : Nat, k ≤ n ∧ i = .int .i64 k ∧ Hid (l.take k = r.take k) ∧ Below w.heap.size w wr) (fun i _ => n - (intOf i).toNat)
    case atStart => exact ⟨0, Nat.zero_le _, rfl, hid rfl, Below.refl _ _⟩
    case round =>
      obtain ⟨k, hk, rfl, hc, hb⟩ := hrel
      by_cases hlt : k < n
      · obtain ⟨b, o, rfl, hbo, c1, c2⟩ := H.out.at_ hlt
        obtain ⟨b', o', rfl, hbo', c1', c2'⟩ := HR.out.at_ hlt
        have d1 := (hb.cell (p := ⟨b, o + k * 2, none⟩) hbo).trans c1
        have d2 := (hb.cell (p := ⟨b, o + k * 2 + 1, none⟩) hbo).trans c2
        have d1' := (hb.cell (p := ⟨b', o' + k * 2, none⟩) hbo').trans c1'
        have d2' := (hb.cell (p := ⟨b', o' + k * 2 + 1, none⟩) hbo').trans c2'
        clear c1 c2 c1' c2'
        have hkl : k < l.length := HL.out ▸ hlt
        have hkr : k < r.length := HRL.out ▸ hlt
        have HKL := hid hkl; have HKR := hid hkr
        obtain ⟨i1, hi1⟩ : ∃ x, x = (l[k]'HKL.out).1 := ⟨_, rfl⟩
        obtain ⟨t1, ht1⟩ : ∃ x, x = (l[k]'HKL.out).2 := ⟨_, rfl⟩
        obtain ⟨i2, hi2⟩ : ∃ x, x = (r[k]'HKR.out).1 := ⟨_, rfl⟩
        obtain ⟨t2, ht2⟩ : ∃ x, x = (r[k]'HKR.out).2 := ⟨_, rfl⟩
        rw [← hi1] at d1; rw [← ht1] at d2; rw [← hi2] at d1'; rw [← ht2] at d2'
        have E1 := hid hi1; have E2 := hid ht1; have E3 := hid hi2; have E4 := hid ht2
        clear hi1 ht1 hi2 ht2 hkl hkr
        by_cases heq : i1 = i2 ∧ t1 = t2
        · obtain ⟨rfl, rfl⟩ := heq
          go_wp2
          go_quiet (fail)
          go_wp2
          go_roundw
          case rel =>
            refine ⟨k + 1, by omega, by go_num, hid ?_, below_drewN hb _⟩
            rw [List.take_succ_eq_append_getElem HKL.out, List.take_succ_eq_append_getElem HKR.out, hc.out]
            congr 2
            exact Prod.ext (E1.out.symm.trans E3.out) (E2.out.symm.trans E4.out)
          case measure => simp [intOf]; omega
        · have hne : decide (l = r) = false := by
            apply decide_eq_false
            rintro rfl
            exact heq ⟨E1.out.trans E3.out.symm, E2.out.trans E4.out.symm⟩
          have HNE := hid hne; clear hne
          by_cases h1 : i1 = i2
          · have h2 : ¬ t1 = t2 := fun e => heq ⟨h1, e⟩
            subst h1
            have h2b : (t1 == t2) = false := by simpa using h2
            have h2c : (t1 != t2) = true := by simpa using h2
            clear heq h2
            go_wp2
            go_quiet (fail)
            go_wp2
            go_ret
            exact ⟨by rw [HNE.out]; rfl, below_drewN hb _⟩
          · have h2b : (i1 == i2) = false := by simpa using h1
            have h2c : (i1 != i2) = true := by simpa using h1
            clear heq h1
            go_wp2
            go_quiet (fail)
            go_wp2
            go_ret
            exact ⟨by rw [HNE.out]; rfl, below_drewN hb _⟩
      · have hk' : k = n := by omega
        go_wp2
        go_ret
        refine ⟨?_, hb⟩
        have : l = r := by
          have := hc.out
          rw [List.take_of_length_le (by rw [← HL.out]; omega), List.take_of_length_le (by rw [← HRL.out]; omega)] at this
          exact this
        rw [decide_eq_true this]; rfl
  · have hq : ((n : Int) != m) = true := by rw [bne_iff_ne]; omega
    have hne : decide (l = r) = false := by
      apply decide_eq_false
      rintro rfl
      exact hnm (HL.out.trans HRL.out.symm)
    have HNE := hid hne; clear hne hnm
    go_enter Try.func19, Try.ntmps19
    go_wp2
    go_ret
    exact ⟨by rw [HNE.out]; rfl, Below.refl _ _⟩

/-- the slice '.slice A n c' reads as the numbers l -/
def cellsI (l : List Int) : List Value := l.map (Value.int .i64)
def RI (w : World) (A : Option Addr) (n : Nat) (l : List Int) : Prop := n = l.length ∧ Reads w 1 A n (cellsI l)
theorem RI.nil (w : World) (A : Option Addr) : RI w A 0 [] := ⟨rfl, Reads.nil w 1 A⟩
theorem RI.below {w w' : World} {n : Nat} {A : Option Addr} {l : List Int} (h : RI w A n l) (hb : Below w.heap.size w w') : RI w' A n l := ⟨h.1, h.2.below hb⟩
theorem RI.at_ {w : World} {n : Nat} {A : Option Addr} {l : List Int} (h : RI w A n l) {k : Nat} (hk : k < n) : ∃ b o, A = some ⟨b, o, none⟩ ∧ b < w.heap.size ∧ w.cell? ⟨b, o + k, none⟩ = some (.int .i64 (l[k]'(h.1 ▸ hk))) := by
  obtain ⟨b, o, rfl, hb, hc⟩ := h.2.2 (by omega)
  exact ⟨b, o, rfl, hb, hc _ _ (by simp [cellsI, List.getElem?_eq_getElem (h.1 ▸ hk : k < l.length)])⟩
theorem RI.of_own {w : World} {n : Nat} {A : Option Addr} {l : List Int} {base c : Nat} {e : TypeId} (h : w.ownsRow base e 1 (.slice A n c) n (cellsI l)) : RI w A n l := by
  refine ⟨?_, Reads.of_own h⟩
  have := h.1
  simp [cellsI] at this
  omega
/-- an answer that is a slice of numbers in new memory -/
def IsInts (w : World) (base : Nat) (v : Value) (l : List Int) : Prop := w.ownsRow base 3 1 v l.length (cellsI l)
theorem IsInts.nil (w : World) (base : Nat) : IsInts w base (.slice none 0 0) [] := World.ownsRow_nil _ _ _ _
theorem own_below {w w1 : World} {base n size : Nat} {e : TypeId} {v : Value} {xs : List Value} (h : w.ownsRow base e size v n xs) (hb : Below w.heap.size w w1) : w1.ownsRow base e size v n xs :=
  h.kept (row := none) ⟨hb.os, hb.tape, hb.output, hb.size, fun k hk _ => hb.block k hk⟩ (by cases v.ownBlock <;> simp)
theorem IsInts.below {w w1 : World} {base : Nat} {v : Value} {l : List Int} (h : IsInts w base v l) (hb : Below w.heap.size w w1) : IsInts w1 base v l := own_below h hb
theorem IsInts.of_own {w : World} {base n : Nat} {v : Value} {l : List Int} (h : w.ownsRow base 3 1 v n (cellsI l)) : IsInts w base v l := by
  have := h.1
  simp [cellsI] at this
  unfold IsInts
  rw [this]; exact h
/-- what it reads as -/
theorem IsInts.ri {w : World} {base : Nat} {v : Value} {l : List Int} (h : IsInts w base v l) : ∃ A N c, v = .slice A N c ∧ N = l.length ∧ N ≤ c ∧ c ≤ maxLen ∧ RI w A N l := by
  obtain ⟨A, c, rfl, h1, h2⟩ := own_slice h
  exact ⟨A, _, c, rfl, rfl, h1, h2, RI.of_own h⟩

set_option maxHeartbeats 800000 in
theorem eqints_any (A B : Option Addr) (n c m d : Nat) (l r : List Int) (w : World) (hl : RI w A n l) (hr : RI w B m r) (hn : n ≤ maxLen) (_hm : m ≤ maxLen) :
    Calls Try.prog 23 #[.slice A n c, .slice B m d] w fun e w' => e = .returned (.bool (decide (l = r))) ∧ Below w.heap.size w w' := by
  have H := hid hl; have HL := hid hl.1; have HR := hid hr; have HRL := hid hr.1; clear hl hr
  unfold maxLen at hn
  by_cases hnm : n = m
  · subst hnm
    have hq : ((n : Int) != n) = false := by simp
    go_enter Try.func23, Try.ntmps23
    go_wp2
    go_loopw [5] (fun i wr => ∃ k : Nat, k ≤ n ∧ i = .int .i64 k ∧ Hid (l.take k = r.take k) ∧ Below w.heap.size w wr) (fun i _ => n - (intOf i).toNat)
    case atStart => exact ⟨0, Nat.zero_le _, rfl, hid rfl, Below.refl _ _⟩
    case round =>
      obtain ⟨k, hk, rfl, hc, hb⟩ := hrel
      by_cases hlt : k < n
      · obtain ⟨b, o, rfl, hbo, c1⟩ := H.out.at_ hlt
        obtain ⟨b', o', rfl, hbo', c1'⟩ := HR.out.at_ hlt
        have d1 := (hb.cell (p := ⟨b, o + k, none⟩) hbo).trans c1
        have d1' := (hb.cell (p := ⟨b', o' + k, none⟩) hbo').trans c1'
        clear c1 c1'
        have hkl : k < l.length := HL.out ▸ hlt
        have hkr : k < r.length := HRL.out ▸ hlt
        have HKL := hid hkl; have HKR := hid hkr
        obtain ⟨i1, hi1⟩ : ∃ x, x = (l[k]'HKL.out) := ⟨_, rfl⟩
        obtain ⟨i2, hi2⟩ : ∃ x, x = (r[k]'HKR.out) := ⟨_, rfl⟩
        rw [← hi1] at d1; rw [← hi2] at d1'
        have E1 := hid hi1; have E3 := hid hi2
        clear hi1 hi2 hkl hkr
        by_cases heq : i1 = i2
        · subst heq
          go_wp2
          go_quiet (fail)
          go_wp2
          go_roundw
          case rel =>
            refine ⟨k + 1, by omega, by go_num, hid ?_, below_drewN hb _⟩
            rw [List.take_succ_eq_append_getElem HKL.out, List.take_succ_eq_append_getElem HKR.out, hc.out]
            congr 2
            exact E1.out.symm.trans E3.out
          case measure => simp [intOf]; omega
        · have hne : decide (l = r) = false := by
            apply decide_eq_false
            rintro rfl
            exact heq (E1.out.trans E3.out.symm)
          have HNE := hid hne; clear hne
          have h2b : (i1 == i2) = false := by simpa using heq
          have h2c : (i1 != i2) = true := by simpa using heq
          clear heq
          go_wp2
          go_quiet (fail)
          go_wp2
          go_ret
          exact ⟨by rw [HNE.out]; rfl, below_drewN hb _⟩
      · have hk' : k = n := by omega
        go_wp2
        go_ret
        refine ⟨?_, hb⟩
        have : l = r := by
          have := hc.out
          rw [List.take_of_length_le (by rw [← HL.out]; omega), List.take_of_length_le (by rw [← HRL.out]; omega)] at this
          exact this
        rw [decide_eq_true this]; rfl
  · have hq : ((n : Int) != m) = true := by rw [bne_iff_ne]; omega
    have hne : decide (l = r) = false := by
      apply decide_eq_false
      rintro rfl
      exact hnm (HL.out.trans HRL.out.symm)
    have HNE := hid hne; clear hne hnm
    go_enter Try.func23, Try.ntmps23
    go_wp2
    go_ret
    exact ⟨by rw [HNE.out]; rfl, Below.refl _ _⟩
end Go.Proofs.Ytkkbgohijokbhaa
