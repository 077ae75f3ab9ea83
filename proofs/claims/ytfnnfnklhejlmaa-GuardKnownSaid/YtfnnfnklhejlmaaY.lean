/- GuardKnown as a call. -/
import Derived.Test.YtfnnfnklhejlmaaT
import Derived.Test.YtfnnfnklhejlmaaX
namespace Go.Proofs.Ytfnnfnklhejlmaa
open Go.RowKit

def sizesC : Array Value := #[.int .i64 (-1), .int .i64 0, .int .i64 1, .int .i64 2, .int .i64 8, .int .i64 1023, .int .i64 1024, .int .i64 1025, .int .i64 9223372036854775807]
def manyC : Array Value := #[.int .i64 0, .int .i64 1, .int .i64 16, .int .i64 17, .int .i64 18, .int .i64 1040, .int .i64 1041]
theorem sizes_at (j : Nat) (h : j < 9) : ∃ d, sizesC[j]? = some (.int .i64 d) := by
  have : j = 0 ∨ j = 1 ∨ j = 2 ∨ j = 3 ∨ j = 4 ∨ j = 5 ∨ j = 6 ∨ j = 7 ∨ j = 8 := by omega
  rcases this with rfl | rfl | rfl | rfl | rfl | rfl | rfl | rfl | rfl <;> exact ⟨_, rfl⟩
theorem many_at (j : Nat) (h : j < 7) : ∃ m : Nat, m ≤ 1041 ∧ manyC[j]? = some (.int .i64 (m : Int)) := by
  have : j = 0 ∨ j = 1 ∨ j = 2 ∨ j = 3 ∨ j = 4 ∨ j = 5 ∨ j = 6 := by omega
  rcases this with rfl | rfl | rfl | rfl | rfl | rfl | rfl
  · exact ⟨0, by omega, rfl⟩
  · exact ⟨1, by omega, rfl⟩
  · exact ⟨16, by omega, rfl⟩
  · exact ⟨17, by omega, rfl⟩
  · exact ⟨18, by omega, rfl⟩
  · exact ⟨1040, by omega, rfl⟩
  · exact ⟨1041, by omega, rfl⟩
theorem byte_set {l : List Int} (h : Byte l) (k : Nat) {x : Int} (h1 : 0 ≤ x) (h2 : x < 256) : Byte (l.set k x) := by
  intro y hy
  rcases List.mem_or_eq_of_mem_set hy with h3 | rfl
  · exact h y h3
  · exact ⟨h1, h2⟩
theorem byte_rep (n : Nat) : Byte (List.replicate n 0) := by
  intro y hy
  rw [List.eq_of_mem_replicate hy]
  decide

theorem rb_marked (w : World) (l : List Int) (fr : Nat × Nat) : RB (w.alloc (.cells (cellsU l).toArray 5 fr)) (some ⟨w.heap.size, 0, none⟩) l.length l := by
  refine ⟨rfl, by simp [cellsU], fun _ => ⟨w.heap.size, 0, rfl, by simp, fun j u hu => ?_⟩⟩
  rw [Nat.zero_add, World.cell?_alloc_mark w _ 5 fr j]
  simpa using hu

set_option maxHeartbeats 3200000 in
set_option maxRecDepth 100000 in
theorem guardKnown_any (W : World) : Calls Try.prog 8 #[] W fun e w' => e = .returned (.bool true) ∧ Below W.heap.size W w' := by
  go_enter Try.func8, Try.ntmps8
  go_wp2_with fail
  have S0 : Hid (Blk (W.alloc (.cells sizesC 3)) W.heap.size 3 sizesC) := hid (Blk.new W 3 sizesC)
  have B0 : Hid (Below W.heap.size W (W.alloc (.cells sizesC 3))) := hid ((Below.refl _ _).alloc (Nat.le_refl _) _)
  go_loopw [2] (fun i wr => ∃ j : Nat, j ≤ 9 ∧ i = .int .i64 j ∧ Hid (Below W.heap.size W wr) ∧ Hid (Blk wr W.heap.size 3 sizesC)) (fun i _ => 9 - (intOf i).toNat)
  case atStart => exact ⟨0, Nat.zero_le _, rfl, B0, S0⟩
  case round =>
    obtain ⟨j, hj, rfl, BB, SS⟩ := hrel
    by_cases hlt : j < 9
    · obtain ⟨d, hd⟩ := sizes_at j hlt
      have c1 : wr.cell? ⟨W.heap.size, j, none⟩ = some (.int .i64 d) := (SS.out.cell j).trans hd
      clear hd
      go_wp2_with fail
      refine (guardLays_any d _).mono ?_
      rintro e w1 ⟨rfl, hb⟩
      have B1 := hid (below_trans' BB.out hb); have S1 := hid (SS.out.below hb SS.out.lt)
      clear hb c1
      go_wp2_with fail
      go_roundw
      case rel => exact ⟨j + 1, by omega, by go_num, B1, S1⟩
      case measure => simp [intOf]; omega
    · clear S0 B0 SS
      go_wp2_with fail
      have S0 : Hid (Blk (wr.alloc (.cells manyC 3)) wr.heap.size 3 manyC) := hid (Blk.new wr 3 manyC)
      have B0 : Hid (Below W.heap.size W (wr.alloc (.cells manyC 3))) := hid (BB.out.alloc BB.out.size _)
      obtain ⟨G, hG⟩ : ∃ G, G = wr.heap.size := ⟨_, rfl⟩
      rw [← hG] at S0 ⊢
      obtain ⟨w2, hw2⟩ : ∃ w2, w2 = wr.alloc (.cells manyC 3) := ⟨_, rfl⟩
      rw [← hw2] at S0 B0
      rw [show wr.alloc (.cells #[Value.int IntKind.i64 0, Value.int IntKind.i64 1, Value.int IntKind.i64 16, Value.int IntKind.i64 17, Value.int IntKind.i64 18, Value.int IntKind.i64 1040, Value.int IntKind.i64 1041] 3) = w2 from hw2.symm]
      clear hG hw2 BB
      go_loopw [4, 5, 6] (fun i v k wr => ∃ j : Nat, j ≤ 7 ∧ i = .int .i64 j ∧ Hid (Below W.heap.size W wr) ∧ Hid (Blk wr G 3 manyC)) (fun i _ _ _ => 7 - (intOf i).toNat)
      case atStart => exact ⟨0, Nat.zero_le _, rfl, B0, S0⟩
      case round =>
        obtain ⟨j, hj, rfl, BB, SS⟩ := hrel
        by_cases hlt : j < 7
        · obtain ⟨m, hm, hd⟩ := many_at j hlt
          have c1 : wr.cell? ⟨G, j, none⟩ = some (.int .i64 (m : Int)) := (SS.out.cell j).trans hd
          obtain ⟨w3, hmk, hv, hb⟩ := mkU m (by omega) wr
          have B3 := hid (below_trans' BB.out hb); have S3 := hid (SS.out.below hb SS.out.lt)
          have V3 := hid hv; have R3 := hid hv.rb_; have Y3 := hid (byte_rep m)
          have hmm : m ≤ maxLen := by unfold maxLen; omega
          have D3 : Hid (∀ b o, (some ⟨wr.heap.size, 0, none⟩ : Option Addr) = some ⟨b, o, none⟩ → b ≠ G ∧ W.heap.size ≤ b) := hid (fun b o h => by
            cases h
            exact ⟨by have := SS.out.lt; omega, BB.out.size⟩)
          have hgw : W.heap.size ≤ wr.heap.size := BB.out.size
          obtain ⟨g, hg⟩ : ∃ g, g = wr.heap.size := ⟨_, rfl⟩
          rw [← hg] at hmk V3 R3 D3 hgw
          clear hd hv hb hg
          go_wp2_with fail
          refine (guardTurns_any _ m m false _ _ R3.out Y3.out (Nat.le_refl _) (by omega)).mono ?_
          rintro e w4 ⟨rfl, hb⟩
          have B4 := hid (below_trans' B3.out hb); have S4 := hid (S3.out.below hb S3.out.lt); have V4 := hid (V3.out.below hb); have R4 := hid (R3.out.below hb)
          clear hb B3 S3 V3 R3 hmk c1 BB SS
          go_wp2_with fail
          refine (guardTurns_any _ m m true _ _ R4.out Y3.out (Nat.le_refl _) (by omega)).mono ?_
          rintro e w5 ⟨rfl, hb⟩
          have B5 := hid (below_trans' B4.out hb); have S5 := hid (S4.out.below hb S4.out.lt); have V5 := hid (V4.out.below hb); have R5 := hid (R4.out.below hb)
          clear hb B4 S4 V4 R4
          go_wp2_with fail
          refine (guardApart_any _ m m _ _ R5.out hmm (Nat.le_refl _)).mono ?_
          rintro e w6 ⟨rfl, hb⟩
          have B6 := hid (below_trans' B5.out hb); have S6 := hid (S5.out.below hb S5.out.lt); have V6 := hid (V5.out.below hb)
          clear hb B5 S5 V5 R5
          go_wp2_with fail
          go_loopw [6] (fun k wq => ∃ i : Nat, i ≤ m ∧ k = .int .i64 i ∧ Hid (Below W.heap.size W wq) ∧ Hid (Blk wq G 3 manyC) ∧ Hid (∃ l, Byte l ∧ IsB wq g (.slice (some ⟨g, 0, none⟩) m m) l)) (fun k _ => m - (intOf k).toNat)
          case atStart => exact ⟨0, Nat.zero_le _, rfl, B6, S6, ⟨_, Y3.out, V6.out⟩⟩
          case round =>
            obtain ⟨i, hi, rfl, BQ, SQ, VQ⟩ := hrel
            by_cases hlt2 : i < m
            · obtain ⟨l, hY, hI⟩ := VQ.out
              obtain ⟨g', hg', -, hc, hf, hs⟩ := hI.poke (k := i) hlt2 204
              cases hg'
              have VI := hid hs; have YI := hid (byte_set hY i (x := 204) (by omega) (by omega))
              have BI := hid (BQ.out.setCell (p := ⟨g, i, none⟩) hgw (.int .u8 204))
              have SI := hid (SQ.out.far (p := ⟨g, i, none⟩) (D3.out g 0 rfl).1.symm (.int .u8 204))
              clear hs hI hY VQ
              go_wp2_with fail
              go_roundw
              case rel => exact ⟨i + 1, by omega, by go_num, BI, SI, ⟨_, YI.out, VI.out⟩⟩
              case measure => simp [intOf]; omega
            · obtain rfl : i = m := by omega
              obtain ⟨l, hY, hI⟩ := VQ.out
              have RI := hid hI.rb_; have YI := hid hY
              clear hY hI VQ B6 S6 V6 Y3 D3
              go_wp2_with fail
              refine (guardTurns_any _ i i false _ _ RI.out YI.out (Nat.le_refl _) (by omega)).mono ?_
              rintro e w7 ⟨rfl, hb⟩
              have B7 := hid (below_trans' BQ.out hb); have S7 := hid (SQ.out.below hb SQ.out.lt); have R7 := hid (RI.out.below hb)
              clear hb BQ SQ RI
              go_wp2_with fail
              refine (guardTurns_any _ i i true _ _ R7.out YI.out (Nat.le_refl _) (by omega)).mono ?_
              rintro e w8 ⟨rfl, hb⟩
              have B8 := hid (below_trans' B7.out hb); have S8 := hid (S7.out.below hb S7.out.lt); have R8 := hid (R7.out.below hb)
              clear hb B7 S7 R7
              go_wp2_with fail
              refine (guardApart_any _ i i _ _ R8.out hmm (Nat.le_refl _)).mono ?_
              rintro e w9 ⟨rfl, hb⟩
              have B9 := hid (below_trans' B8.out hb); have S9 := hid (S8.out.below hb S8.out.lt)
              clear hb B8 S8 R8
              go_wp2_with fail
              go_roundw
              case rel => exact ⟨j + 1, by omega, by go_num, B9, S9⟩
              case measure => simp [intOf]; omega
        · clear S0 B0 SS
          go_wp2_with fail
          go_loopw [7] (fun i wr => ∃ j : Nat, j ≤ 20 ∧ i = .int .i64 j ∧ Hid (Below W.heap.size W wr)) (fun i _ => 20 - (intOf i).toNat)
          case atStart => exact ⟨0, Nat.zero_le _, rfl, BB⟩
          case round =>
            obtain ⟨i, hi, rfl, BI⟩ := hrel
            by_cases hlt2 : i < 20
            · go_wp2_with fail
              refine (guardTold_any 3 _ 1 _ (by omega)).mono ?_
              rintro e w7 ⟨rfl, hb⟩
              have B7 := hid (below_trans' BI.out hb)
              clear hb BI
              go_wp2_with fail
              refine (guardTold_any 3 _ 255 _ (by omega)).mono ?_
              rintro e w8 ⟨rfl, hb⟩
              have B8 := hid (below_trans' B7.out hb)
              clear hb B7
              go_wp2_with fail
              refine (guardTold_any 0 _ 7 _ (by omega)).mono ?_
              rintro e w9 ⟨rfl, hb⟩
              have B9 := hid (below_trans' B8.out hb)
              clear hb B8
              go_wp2_with fail
              go_roundw
              case rel => exact ⟨i + 1, by omega, by go_num, B9⟩
              case measure => simp [intOf]; omega
            · clear BB
              go_wp2_with fail
              refine (works_any _).mono ?_
              rintro e w7 ⟨rfl, hb⟩
              have B7 := hid (below_trans' BI.out hb)
              clear hb BI
              have q22 := Lib.run_convert_bytes_const (P := Try.prog) w7 22 5 #[.int .u8 97, .int .u8 98, .int .u8 99, .int .u8 100, .int .u8 101, .int .u8 102, .int .u8 103] 7 7 Try.underlying22 Try.underlying5
              go_wp2_with fail
              have R7 : Hid (RB (w7.alloc (.cells (cellsU [97, 98, 99, 100, 101, 102, 103]).toArray 5 (7, 8))) (some ⟨w7.heap.size, 0, none⟩) 7 [97, 98, 99, 100, 101, 102, 103]) := hid (rb_marked _ _ _)
              have B8 := hid (B7.out.alloc B7.out.size (.cells (cellsU [97, 98, 99, 100, 101, 102, 103]).toArray 5 (7, 8)))
              refine (guardRound_any 4 _ 7 7 _ 2 _ R7.out (by intro x hx; simp at hx; omega) (Nat.le_refl _) (by omega)).mono ?_
              rintro e w9 ⟨rfl, hb⟩
              have B9 := hid (below_trans' B8.out hb)
              clear hb
              go_wp2_with fail
              go_ret
              exact ⟨rfl, B9.out⟩
end Go.Proofs.Ytfnnfnklhejlmaa
