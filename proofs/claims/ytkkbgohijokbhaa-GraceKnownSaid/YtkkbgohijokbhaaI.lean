/- segs.Ready. -/
import Derived.Test.YtkkbgohijokbhaaH
import Derived.WalkMore
import Derived.Deep.RegionLaw
namespace Go.Proofs.Ytkkbgohijokbhaa
open Go.RowKit

/-- what Ready comes to -/
def ReadyTo (l : List Gr.Rec) (d : Int) (w : World) (e : Ending) (w' : World) : Prop :=
  if Gr.check l = 0 then ∃ v u, e = .returned (.tuple #[v, u, .int .i64 0]) ∧ IsInts w' w.heap.size v (Gr.readyIds l d) ∧ IsRow w' w.heap.size u (Gr.readyRest l d) ∧ Below w.heap.size w w'
  else e = .returned (.tuple #[.slice none 0 0, .slice none 0 0, .int .i64 (Gr.check l)]) ∧ Below w.heap.size w w'

theorem cut_from (t e : TypeId) (kl : IntKind) {i : TypeInfo} (ht : Try.prog.underlying t = some (.slice e)) (hi : Try.prog.info? e = some i) (size : Nat) (hsz : i.size = size) (A : Option Addr) (n c j : Nat) (hm : j ≤ n) :
    ∀ W : World, (Instr.slice t (.slice A n c) (some (.int kl (j : Int))) none none).run Try.prog W = .ok (.slice (if c = j then A else A.map (·.add (j * size))) (n - j) (c - j)) W := by
  intro W
  have hel : Try.prog.elem t = e := by simp [Program.elem, ht]
  have hu : Try.prog.underlying t = some (.slice (Try.prog.elem t)) := by rw [hel]; exact ht
  rw [run_slice_l W t A n c hu kl (j : Int) (Int.natCast_nonneg _) (by omega), hel]
  simp [sizeOf, typeInfo, hi, hsz, sliced, Result.andThen]
theorem rd_cut {w : World} {A : Option Addr} {n c : Nat} {l : List Gr.Rec} (h : RD w A n l) (hc : n ≤ c) (j : Nat) (hj : j ≤ n) : RD w (if c = j then A else A.map (·.add (j * 2))) (n - j) (l.drop j) := by
  have := h.drop_ j hj
  by_cases hcj : c = j
  · have hn : n = j := by omega
    rw [if_pos hcj]; rw [if_pos hn] at this; exact this
  · rw [if_neg hcj]
    by_cases hn : n = j
    · subst hn
      have hl := this.1
      refine ⟨hl, this.2.1, fun h0 => absurd h0 (by omega)⟩
    · rw [if_neg hn] at this; exact this

theorem own_mono {w : World} {base base' : Nat} {e : TypeId} {size n : Nat} {v : Value} {xs : List Value} (h : w.ownsRow base e size v n xs) (hb : base' ≤ base) : w.ownsRow base' e size v n xs := by
  refine ⟨h.1, ?_⟩
  rcases h.2 with h0 | ⟨g, cap, cur, hv, hg, rest⟩
  · exact .inl h0
  · exact .inr ⟨g, cap, cur, hv, by omega, rest⟩
theorem reads_one (w : World) (g o : Nat) (v : Value) (hb : g < w.heap.size) (h0 : w.cell? ⟨g, o, none⟩ = some v) : Reads w 1 (some ⟨g, o, none⟩) 1 [v] := by
  refine ⟨rfl, fun _ => ⟨g, o, rfl, hb, fun j u hu => ?_⟩⟩
  match j, hu with
  | 0, hu => simp at hu; subst hu; exact h0
  | j + 1, hu => simp at hu

theorem take_all_le {l : List Gr.Rec} {k : Nat} {d : Int} (h : k < l.length) (ha : ∀ x ∈ l.take k, x.2 ≤ d) (hd : (l[k]).2 ≤ d) : ∀ x ∈ l.take (k + 1), x.2 ≤ d := by
  intro x hx
  rw [List.take_succ_eq_append_getElem h, List.mem_append] at hx
  rcases hx with hx | hx
  · exact ha x hx
  · simp at hx; subst hx; exact hd
theorem ids_step {l : List Gr.Rec} {k : Nat} (h : k < l.length) : cellsI ((l.take (k + 1)).map (·.1)) = cellsI ((l.take k).map (·.1)) ++ [.int .i64 (l[k]).1] := by
  rw [List.take_succ_eq_append_getElem h]; simp only [cellsI, List.map_append, List.map_cons, List.map_nil]
/-- where a row is parted -/
theorem parted {l : List Gr.Rec} {k : Nat} {d : Int} (hk : k ≤ l.length) (ha : ∀ x ∈ l.take k, x.2 ≤ d) (hd : ∀ h : k < l.length, d < (l[k]).2) :
    Gr.readyIds l d = (l.take k).map (·.1) ∧ Gr.readyRest l d = l.drop k := by
  have h1 : ∀ r : List Gr.Rec, (∀ x ∈ r, x.2 ≤ d) → ∀ s : List Gr.Rec, (r ++ s).takeWhile (fun x => decide (x.2 ≤ d)) = r ++ s.takeWhile (fun x => decide (x.2 ≤ d)) ∧ (r ++ s).dropWhile (fun x => decide (x.2 ≤ d)) = s.dropWhile (fun x => decide (x.2 ≤ d)) := by
    intro r hr s
    exact ⟨List.takeWhile_append_of_pos (fun x hx => by simpa using hr x hx), List.dropWhile_append_of_pos (fun x hx => by simpa using hr x hx)⟩
  have h4 : ∀ (x : Gr.Rec) (r : List Gr.Rec), d < x.2 → (x :: r).takeWhile (fun x => decide (x.2 ≤ d)) = [] ∧ (x :: r).dropWhile (fun x => decide (x.2 ≤ d)) = x :: r := by
    intro x r hx
    have hf : decide (x.2 ≤ d) = false := decide_eq_false (by omega)
    rw [List.takeWhile_cons, List.dropWhile_cons, hf]
    exact ⟨rfl, rfl⟩
  have h2 : (l.drop k).takeWhile (fun x => decide (x.2 ≤ d)) = [] ∧ (l.drop k).dropWhile (fun x => decide (x.2 ≤ d)) = l.drop k := by
    by_cases h : k < l.length
    · rw [List.drop_eq_getElem_cons h]
      exact h4 _ _ (hd h)
    · rw [List.drop_eq_nil_of_le (by omega)]; simp
  have h3 := h1 (l.take k) ha (l.drop k)
  rw [List.take_append_drop] at h3
  unfold Gr.readyIds Gr.readyRest
  rw [h3.1, h3.2, h2.1, h2.2]; simp

theorem done0 {l : List Gr.Rec} {d : Int} {w w1 w2 : World} {k m cc : Nat} {v : Value} {B : Option Addr} (h0 : Gr.check l = 0) (hb1 : Below w.heap.size w w1) (hb2 : Below w1.heap.size w1 w2)
    (hp : Gr.readyIds l d = (l.take k).map (·.1) ∧ Gr.readyRest l d = l.drop k) (ho : w2.ownsRow w1.heap.size 3 1 v k (cellsI ((l.take k).map (·.1)))) (hB : OwnR w2 w.heap.size B m (l.drop k)) (hm : m ≤ cc) (hcc : cc ≤ maxLen) :
    ReadyTo l d w (.returned (.tuple #[v, .slice B m cc, .int .i64 0])) w2 := by
  unfold ReadyTo
  rw [if_pos h0, hp.1, hp.2]
  exact ⟨v, _, rfl, IsInts.of_own (own_mono ho hb1.size), ⟨B, m, cc, rfl, hm, hcc, hB⟩, below_trans' hb1 hb2⟩

set_option maxHeartbeats 1600000 in
theorem ready_any (A : Option Addr) (n c : Nat) (l : List Gr.Rec) (d : Int) (w : World) (h : RD w A n l) (hm : n ≤ maxLen) :
    Calls Try.prog 21 #[.slice A n c, .int .i64 d] w (ReadyTo l d w) := by
  obtain ⟨i3, hi3, hz3, hs3, hb3⟩ := info_parts info3
  obtain ⟨i24, hi24, hz24, hs24, hb24⟩ := info_parts info24
  have H := hid h; have HL := hid h.1
  have HM := hid hm
  unfold maxLen at hm
  rcases Gr.check_vals l with h0 | h0 | h0
  · have hn : n ≤ 256 := by rw [HL.out]; exact len_of_check h0
    have H0 := hid h0; clear h h0
    go_enter Try.func21, Try.ntmps21
    go_wp2_with fail
    go_step3
    go_wp2_with fail
    refine (check_at 0 A n c l _ H.out HM.out H0.out).mono ?_
    rintro e w0 ⟨rfl, hb0⟩
    have HB0 := hid hb0; clear hb0
    go_wp2_with fail
    refine (row_any A none n c 0 0 l [] _ (H.out.below HB0.out) (RD.nil _ _) (by omega)).mono ?_
    rintro e w1 ⟨v, rfl, hv, hb1⟩
    rw [List.append_nil] at hv
    obtain ⟨A1, N1, c1, rfl, hle1, hm1, hr1⟩ := hv
    have HLN : Hid (n = N1) := hid (by rw [hr1.1, HL.out])
    obtain rfl : n = N1 := HLN.out
    have HR1 := hid (hr1.mono (base' := w.heap.size) HB0.out.size); have HB1 := hid (below_trans' HB0.out hb1); have HM1 := hid hm1
    have HA := hid ((H.out.below HB0.out).below hb1)
    clear hr1 hb1 hm1
    go_wp2_with fail
    go_step3
    go_wp2_with fail
    go_loopw [4, 5, 19] (fun v u i wr => ∃ (k : Nat) (B : Option Addr), k ≤ n ∧ i = .int .i64 k ∧ wr.ownsRow w1.heap.size 3 1 v k (cellsI ((l.take k).map (·.1))) ∧ u = .slice B (n - k) (c1 - k) ∧ Hid (OwnR w1 w.heap.size B (n - k) (l.drop k)) ∧ Hid (∀ x ∈ l.take k, x.2 ≤ d) ∧ Below w1.heap.size w1 wr)
      (fun _ _ i _ => n - (intOf i).toNat)
    case atStart => exact ⟨0, A1, Nat.zero_le _, rfl, World.ownsRow_nil _ _ _ _, rfl, HR1, hid (by simp), Below.refl _ _⟩
    case round =>
      obtain ⟨k, B, hk, rfl, hown, rfl, hB, hall, hb⟩ := hrel
      have HO := hid hown; clear hown
      by_cases hlt : k < n
      · obtain ⟨b, o, rfl, hbo, c1', c2'⟩ := HA.out.at_ hlt
        have d1 := (hb.cell (p := ⟨b, o + k * 2, none⟩) hbo).trans c1'
        have d2 := (hb.cell (p := ⟨b, o + k * 2 + 1, none⟩) hbo).trans c2'
        clear c1' c2'
        have HKL : Hid (k < l.length) := hid (HL.out ▸ hlt)
        obtain ⟨i1, hi1⟩ : ∃ x, x = (l[k]'HKL.out).1 := ⟨_, rfl⟩
        obtain ⟨t1, ht1⟩ : ∃ x, x = (l[k]'HKL.out).2 := ⟨_, rfl⟩
        rw [← hi1] at d1; rw [← ht1] at d2
        have E1 := hid hi1; have E2 := hid ht1
        clear hi1 ht1
        by_cases hd : d < t1
        · go_wp2
          rw [Exit.noGoto_ret]
          go_ret3
          have hp := parted (l := l) (d := d) (k := k) (by rw [← HL.out]; exact hk) hall.out (fun _ => by rw [← E2.out]; exact hd)
          refine done0 H0.out HB1.out (hb.alloc hb.size _) hp (HO.out.alloc _) ?_ ?_ ?_
          · exact hB.out.below (hb.alloc hb.size _)
          · omega
          · have := HM1.out; unfold maxLen at this ⊢; omega
        · have hd : t1 ≤ d := by omega
          have hcut := cut_from 22 24 .i64 Try.underlying22 hi24 2 hs24 B (n - k) (c1 - k) 1 (by omega)
          have hB' := hB.out.cut (c := c1 - k) (by omega) 1 (by omega)
          obtain ⟨B', hBB⟩ : ∃ B', B' = (if c1 - k = 1 then B else B.map (·.add (1 * 2))) := ⟨_, rfl⟩
          rw [← hBB] at hcut hB'
          rw [List.drop_drop] at hB'
          have HB' := hid hB'; clear hBB hB'
          simp only [Int.natCast_one] at hcut
          go_wp2
          go_region_law (refine step_append_any _ rfl (.tmp 23) (.tmp 26) 34 rfl w1.heap.size 3 i3 _ 1 8 Try.underlying34 hi3 hz3 hs3 hb3 rfl (by decide) _ k (cellsI ((l.take k).map (·.1))) rfl (by repeat (first | exact HO.out | refine World.ownsRow.alloc ?_ _ | refine World.ownsRow.drew ?_)) _ 1 1 [.int .i64 i1] rfl (by exact reads_one _ _ _ _ (by simp) (by simp [go_sem])) (by simp [Value.oneCell']) (by unfold maxLen; omega) (by omega) (by have := hb.size; simp; omega) ?_; intro v2 w2 hown2 hg2 _)
          have hb3 : Below w1.heap.size w1 w2 := (((hb.alloc hb.size _).alloc (by have := hb.size; simp; omega) _).drew).grown hg2 (by have := hb.size; show w1.heap.size ≤ (World.alloc _ _).heap.size; simp; omega) (fun j hj => own_lt HO.out j hj)
          have HOW := hid hown2; have HBW := hid hb3; clear hown2 hb3 hg2 d1 d2
          go_wp2
          go_roundw
          case rel => exact ⟨k + 1, B', by omega, by go_num, by rw [ids_step HKL.out, ← E1.out]; exact HOW.out, rfl, HB', hid (take_all_le HKL.out hall.out (by rw [← E2.out]; exact hd)), HBW.out⟩
          case measure => simp [intOf]; omega
      · go_wp2
        rw [Exit.noGoto_ret]
        go_ret3
        have hp := parted (l := l) (d := d) (k := k) (by rw [← HL.out]; exact hk) hall.out (fun h => absurd h (by rw [← HL.out]; exact hlt))
        exact done0 H0.out HB1.out hb hp HO.out (hB.out.below hb) (by omega) (by have := HM1.out; unfold maxLen at this ⊢; omega)
  all_goals
    have H0 := hid h0; clear h h0
    go_enter Try.func21, Try.ntmps21
    go_wp2_with fail
    go_step3
    go_wp2_with fail
    refine (check_at _ A n c l _ H.out HM.out H0.out).mono ?_
    rintro e w0 ⟨rfl, hb0⟩
    have HB0 := hid hb0; clear hb0
    go_wp2_with fail
    rw [Exit.noGoto_ret]
    go_ret3
    unfold ReadyTo
    rw [if_neg (by rw [H0.out]; decide), H0.out]
    exact ⟨rfl, HB0.out⟩
end Go.Proofs.Ytkkbgohijokbhaa
