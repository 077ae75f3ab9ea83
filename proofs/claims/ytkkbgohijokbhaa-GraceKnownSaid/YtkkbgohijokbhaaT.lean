/- the law SegsKnown as a call. -/
import Derived.Test.YtkkbgohijokbhaaS
namespace Go.Proofs.Ytkkbgohijokbhaa
open Go.RowKit

theorem run_make_rowN {P : Program} (t e : TypeId) (i : TypeInfo) (z : Value) (ht : P.underlying t = some (.slice e)) (hi : P.info? e = some i) (hz : i.zero = some z)
    (kl kc : IntKind) (n : Nat) (hbytes : i.bytes * n ≤ 281474976710656) (h63 : n ≤ 9223372036854775807) (w : World) :
    (Instr.makeSlice t (.int kl (n : Int)) (.int kc (n : Int))).run P w = .ok (.slice (some ⟨w.heap.size, 0, none⟩) n n) (w.alloc (.cells (madeCells z.cells (n * i.size)) e)) := by
  have hb : (i.bytes : Int) * (n : Int) ≤ 281474976710656 := by
    have h : ((i.bytes * n : Nat) : Int) ≤ 281474976710656 := by omega
    rwa [Int.natCast_mul] at h
  have hr := run_make (P := P) w t e i z ht hi hz kl kc n n (by omega) (by omega) hb (by omega)
  simp only [Int.toNat_natCast] at hr
  exact hr

def bigL : List Gr.Rec := (List.range 257).map fun (i : Nat) => ((i : Int), 1 + (i : Int) / 50)
theorem bigL_length : bigL.length = 257 := by simp [bigL]
theorem bigL_get (i : Nat) (h : i < 257) : bigL[i]? = some ((i : Int), 1 + (i : Int) / 50) := by simp [bigL, h]

def Filled (w : World) (g k : Nat) : Prop := ∃ cur, Blk w g 24 cur ∧ cur.size = 514 ∧ ∀ j, j < k * 2 → cur[j]? = (cellsR bigL)[j]?
theorem Filled.cell {w : World} {g k : Nat} (h : Filled w g k) (j : Nat) (hj : j < 514) : ∃ v, w.cell? ⟨g, j, none⟩ = some v ∧ w.frozen? ⟨g, j, none⟩ = false := by
  obtain ⟨cur, hb, hs, _⟩ := h
  exact ⟨cur[j]'(by omega), by rw [hb.cell]; exact Array.getElem?_eq_getElem _, hb.frozen _⟩
theorem Filled.step {w : World} {g k : Nat} (h : Filled w g k) (hk : k < 257) : Filled ((w.setCell ⟨g, k * 2, none⟩ (.int .i64 (k : Int))).setCell ⟨g, k * 2 + 1, none⟩ (.int .i64 (1 + (k : Int) / 50))) g (k + 1) := by
  obtain ⟨cur, hb, hs, hc⟩ := h
  refine ⟨_, (hb.set_ _ _).set_ _ _, by simpa using hs, fun j hj => ?_⟩
  have hl := cellsR_at bigL k (by rw [bigL_length]; exact hk)
  have hg := bigL_get k hk
  have hgk : bigL[k]'(by rw [bigL_length]; exact hk) = ((k : Int), 1 + (k : Int) / 50) := by
    have := List.getElem?_eq_some_iff.1 hg
    exact this.2
  rw [hgk] at hl
  rw [Array.getElem?_setIfInBounds, Array.getElem?_setIfInBounds]
  by_cases h1 : k * 2 + 1 = j
  · subst h1
    rw [if_pos rfl, if_pos (by simp; omega)]
    exact hl.2.symm
  · rw [if_neg h1]
    by_cases h2 : k * 2 = j
    · subst h2
      rw [if_pos rfl, if_pos (by omega)]
      exact hl.1.symm
    · rw [if_neg h2]
      exact hc j (by omega)
theorem Filled.rd {w : World} {g : Nat} (h : Filled w g 257) : RD w (some ⟨g, 0, none⟩) 257 bigL := by
  obtain ⟨cur, hb, hs, hc⟩ := h
  refine ⟨bigL_length.symm, by rw [cellsR_length, bigL_length], fun _ => ⟨g, 0, rfl, hb.lt, fun j u hu => ?_⟩⟩
  have hj := (List.getElem?_eq_some_iff.1 hu).1
  rw [cellsR_length, bigL_length] at hj
  rw [Nat.zero_add, hb.cell, hc j hj]
  exact hu
theorem Filled.start {w : World} {C0 : Array Value} (hs : C0.size = 514) : Filled (w.alloc (.cells C0 24)) w.heap.size 0 := ⟨C0, Blk.new w 24 C0, hs, fun j hj => by omega⟩
theorem big_five : Gr.check bigL = 5 := by unfold Gr.check; rw [bigL_length]; rfl
theorem big_zero : Gr.check (bigL.take 256) = 0 := by decide +kernel

def badL : List Gr.Rec := [(0, 0), (0, -1), (-1, 1), (9007199254740992, 1), (1, 9007199254740992), (9007199254740991, 9007199254740991)]

set_option maxHeartbeats 6400000 in
set_option maxRecDepth 100000 in
theorem segsKnown_any (w : World) : Calls Try.prog 10 #[] w fun e w' => e = .returned (.bool true) ∧ Below w.heap.size w w' := by
  obtain ⟨i24, hi24, hz24, hs24, hb24⟩ := info_parts info24
  have hmk := run_make_rowN (P := Try.prog) 22 24 i24 _ Try.underlying22 hi24 hz24 .i64 .i64 257 (by rw [hb24]; decide) (by omega)
  obtain ⟨C0, hC0⟩ : ∃ C0, C0 = madeCells (Value.agg #[.int .i64 0, .int .i64 0]).cells (257 * i24.size) := ⟨_, rfl⟩
  have hsz : C0.size = 514 := by rw [hC0, size_madeCells, hs24]
  rw [← hC0] at hmk
  simp only [Int.cast_ofNat_Int] at hmk
  clear hC0
  have HSZ := hid hsz; clear hsz
  go_enter Try.func10, Try.ntmps10
  go_wp2_with fail
  go_loopw [2] (fun j wr => ∃ k : Nat, k ≤ 257 ∧ j = .int .i64 k ∧ Filled wr w.heap.size k ∧ Below w.heap.size w wr) (fun j _ => 257 - (intOf j).toNat)
  case atStart => exact ⟨0, by omega, rfl, Filled.start HSZ.out, (Below.refl _ _).alloc (Nat.le_refl _) _⟩
  case round =>
    obtain ⟨k, hk, rfl, hF, hb⟩ := hrel
    have HF := hid hF; have HB := hid hb; clear hF hb hmk
    by_cases hlt : k < 257
    · obtain ⟨v1, c1, f1⟩ := HF.out.cell (k * 2) (by omega)
      obtain ⟨v2, c2, f2⟩ := HF.out.cell (k * 2 + 1) (by omega)
      go_wp2
      go_roundw
      case rel => exact ⟨k + 1, by omega, by go_num, HF.out.step hlt, (HB.out.setCell (Nat.le_refl _) _).setCell (Nat.le_refl _) _⟩
      case measure => simp [intOf]; omega
    · obtain rfl : k = 257 := by omega
      have HR := hid HF.out.rd
      have HR6 : Hid (RD wr (some ⟨w.heap.size, 0, none⟩) 256 (bigL.take 256)) := hid (HR.out.take_ 256 (by omega))
      have HR5 : Hid (RD wr (some ⟨w.heap.size, 0, none⟩) 255 (bigL.take 255)) := hid (HR.out.take_ 255 (by omega))
      have hc6 := cut_to 22 24 .i64 Try.underlying22 hi24 (some ⟨w.heap.size, 0, none⟩) 257 257 256 (by omega) (by omega)
      have hc5 := cut_to 22 24 .i64 Try.underlying22 hi24 (some ⟨w.heap.size, 0, none⟩) 257 257 255 (by omega) (by omega)
      simp only [Int.cast_ofNat_Int] at hc6 hc5
      have M7 : Hid (257 ≤ maxLen) := hid (by unfold maxLen; omega)
      have M6 : Hid (256 ≤ maxLen) := hid (by unfold maxLen; omega)
      have M5 : Hid (255 ≤ maxLen) := hid (by unfold maxLen; omega)
      clear hlt hk
      go_wp2_with fail
      refine (check_at 5 _ 257 257 _ _ HR.out M7.out big_five).mono ?_
      rintro e w1 ⟨rfl, hb1⟩
      have HB1 := hid hb1; clear hb1
      go_wp2_with fail
      refine (check_at 0 _ 256 257 _ _ (HR6.out.below HB1.out) M6.out big_zero).mono ?_
      rintro e w2 ⟨rfl, hb2⟩
      have HB2 := hid (below_trans' HB1.out hb2); clear hb2
      go_wp2_with fail
      refine (segsRows_any _ 256 257 _ _ _ _ (HR6.out.below HB2.out) (by omega) M6.out).mono ?_
      rintro e w3 ⟨rfl, hb3⟩
      have HB3 := hid (below_trans' HB2.out hb3); clear hb3
      go_wp2_with fail
      refine (segsRows_any _ 255 257 _ _ _ _ (HR5.out.below HB3.out) (by omega) M5.out).mono ?_
      rintro e w4 ⟨rfl, hb4⟩
      have HB4 := hid (below_trans' HB3.out hb4); clear hb4
      go_wp2_with fail
      refine (segsReady_any _ 257 257 _ _ _ (HR.out.below HB4.out) (by omega) M7.out).mono ?_
      rintro e w5 ⟨rfl, hb5⟩
      have HB5 := hid (below_trans' HB4.out hb5); clear hb5
      go_wp2_with fail
      go_loopw [3] (fun j wx => ∃ z : Int, -1 ≤ z ∧ z ≤ 8 ∧ j = .int .i64 z ∧ Below w5.heap.size w5 wx) (fun j _ => (8 - intOf j).toNat)
      case atStart => exact ⟨-1, by omega, by omega, rfl, Below.refl _ _⟩
      case round =>
        obtain ⟨z, hz1, hz2, rfl, hbx⟩ := hrel
        have HBX := hid hbx; clear hbx
        have HBA := hid (below_trans' HB5.out HBX.out)
        by_cases hz : z < 8
        · go_wp2_with fail
          refine (segsReady_any _ 256 257 _ _ _ (HR6.out.below HBA.out) (by omega) M6.out).mono ?_
          rintro e w6 ⟨rfl, hb6⟩
          have HB6 := hid hb6; clear hb6
          go_wp2_with fail
          refine (segsCut_any _ 256 257 _ _ _ (HR6.out.below (below_trans' HBA.out HB6.out)) (by omega) M6.out).mono ?_
          rintro e w7 ⟨rfl, hb7⟩
          have HB7 := hid (below_trans' HB6.out hb7); clear hb7
          go_wp2_with fail
          refine (segsTwice_any _ 256 257 _ _ _ _ (HR6.out.below (below_trans' HBA.out HB7.out)) (by omega) M6.out).mono ?_
          rintro e w8 ⟨rfl, hb8⟩
          have HB8 := hid (below_trans' HB7.out hb8); clear hb8
          go_wp2_with fail
          go_roundw
          case rel => exact ⟨z + 1, by omega, by omega, rfl, below_trans' HBX.out HB8.out⟩
          case measure => simp [intOf]; omega
        · obtain rfl : z = 8 := by omega
          clear hz hz1 hz2 hc5 hc6
          obtain ⟨wo, rfl⟩ : ∃ wo : World, wo = wr := ⟨_, rfl⟩
          have H1M : Hid (1 ≤ maxLen) := hid (by unfold maxLen; omega)
          have H0M : Hid (0 ≤ maxLen) := hid (by unfold maxLen; omega)
          have H2M : Hid (2 ≤ maxLen) := hid (by unfold maxLen; omega)
          have HRB := hid (rd_cells (wo.alloc (.cells (cellsR badL).toArray 24)) wo.heap.size badL (heap_alloc_new wo _))
          go_wp2_with fail
          go_loopw [5] (fun j wx => ∃ k : Nat, k ≤ 6 ∧ j = .int .i64 k ∧ Hid (RD wx (some ⟨wo.heap.size, 0, none⟩) 6 badL) ∧ wo.heap.size < wx.heap.size ∧ Below wo.heap.size wo wx) (fun j _ => (6 - intOf j).toNat)
          case atStart => exact ⟨0, by omega, rfl, HRB, by simp, (Below.refl _ _).alloc (Nat.le_refl _) _⟩
          case round =>
            obtain ⟨k, hk, rfl, HRX, hws, hbx⟩ := hrel
            have HBX2 := hid hbx; clear hbx
            have hne : ¬ wo.heap.size = wr.heap.size := by omega
            by_cases hlt : k < 6
            · obtain ⟨⟨i1, t1⟩, hx⟩ : ∃ x, badL[k]? = some x := ⟨_, List.getElem?_eq_getElem (by simpa [badL] using hlt)⟩
              obtain ⟨b, o, hA, hbo, d1, d2⟩ := HRX.out.get k _ hx
              simp only [Option.some.injEq, Addr.mk.injEq, and_true] at hA
              obtain ⟨rfl, rfl⟩ := hA
              simp only [Nat.zero_add] at d1 d2
              clear hx
              go_wp2_with fail
              refine (segsRows_any _ 1 1 [(1, 1)] i1 t1 _ (rd_cells _ wr.heap.size [(1, 1)] (heap_alloc_new wr _)) (Nat.le_refl _) H1M.out).mono ?_
              rintro e w6 ⟨rfl, hb6⟩
              have HB6 : Hid (Below wr.heap.size wr w6) := hid (((Below.refl wr.heap.size wr).alloc (Nat.le_refl _) _).trans (hb6.mono (by simp)))
              have d3 := (HB6.out.cell (p := ⟨wo.heap.size, k * 2, none⟩) hws).trans d1
              have d4 := (HB6.out.cell (p := ⟨wo.heap.size, k * 2 + 1, none⟩) hws).trans d2
              have hne6 : ¬ wo.heap.size = w6.heap.size := by have := HB6.out.size; omega
              clear hb6 d1 d2
              go_wp2_with fail
              refine (segsRows_any _ 1 1 [(i1, t1)] 2 2 _ (rd_cells _ w6.heap.size [(i1, t1)] (heap_alloc_new w6 _)) (Nat.le_refl _) H1M.out).mono ?_
              rintro e w7 ⟨rfl, hb7⟩
              have HB7 : Hid (Below w6.heap.size w6 w7) := hid (((Below.refl w6.heap.size w6).alloc (Nat.le_refl _) _).trans (hb7.mono (by simp)))
              have d5 := (HB7.out.cell (p := ⟨wo.heap.size, k * 2, none⟩) (by have := HB6.out.size; exact Nat.lt_of_lt_of_le hws this)).trans d3
              have d6 := (HB7.out.cell (p := ⟨wo.heap.size, k * 2 + 1, none⟩) (by have := HB6.out.size; exact Nat.lt_of_lt_of_le hws this)).trans d4
              have hne7 : ¬ wo.heap.size = w7.heap.size := by have := HB6.out.size; have := HB7.out.size; omega
              clear hb7 d3 d4
              go_wp2_with fail
              refine (segsReady_any _ 1 1 [(i1, t1)] 1 _ (rd_cells _ w7.heap.size [(i1, t1)] (heap_alloc_new w7 _)) (Nat.le_refl _) H1M.out).mono ?_
              rintro e w8 ⟨rfl, hb8⟩
              have HB8 : Hid (Below w7.heap.size w7 w8) := hid (((Below.refl w7.heap.size w7).alloc (Nat.le_refl _) _).trans (hb8.mono (by simp)))
              have HB9 := hid (below_trans' HB6.out (below_trans' HB7.out HB8.out))
              clear hb8 d5 d6
              go_wp2_with fail
              go_roundw
              case rel => exact ⟨k + 1, by omega, by go_num, hid (HRX.out.below HB9.out), Nat.lt_of_lt_of_le hws HB9.out.size, HBX2.out.trans (HB9.out.mono HBX2.out.size)⟩
              case measure => simp [intOf]; omega
            · obtain rfl : k = 6 := by omega
              have HFIN := hid (below_trans' HBA.out HBX2.out)
              clear hlt hk
              go_wp2_with fail
              refine (works_any _).mono ?_
              rintro e w6 ⟨rfl, hb6⟩
              have HB6 := hid hb6; clear hb6
              go_wp2_with fail
              refine (segsRows_any none 0 0 [] 0 1 _ (RD.nil _ _) (Nat.le_refl _) H0M.out).mono ?_
              rintro e w7 ⟨rfl, hb7⟩
              have HB7 := hid (below_trans' HB6.out hb7); clear hb7
              go_wp2_with fail
              refine (segsReady_any none 0 0 [] 0 _ (RD.nil _ _) (Nat.le_refl _) H0M.out).mono ?_
              rintro e w8 ⟨rfl, hb8⟩
              have HB8 := hid (below_trans' HB7.out hb8); clear hb8
              go_wp2_with fail
              refine (segsReady_any _ 2 2 [(0, 2), (0, 1)] 2 _ (rd_cells _ w8.heap.size [(0, 2), (0, 1)] (heap_alloc_new w8 _)) (Nat.le_refl _) H2M.out).mono ?_
              rintro e w9 ⟨rfl, hb9⟩
              have HB9 : Hid (Below w8.heap.size w8 w9) := hid (((Below.refl w8.heap.size w8).alloc (Nat.le_refl _) _).trans (hb9.mono (by simp)))
              clear hb9
              go_wp2_with fail
              go_ret
              exact ⟨rfl, below_trans' HB.out (below_trans' HFIN.out (below_trans' HB8.out HB9.out))⟩
end Go.Proofs.Ytkkbgohijokbhaa
