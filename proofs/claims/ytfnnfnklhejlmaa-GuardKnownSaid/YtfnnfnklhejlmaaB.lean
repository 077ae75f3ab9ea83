/- bits.Mul of 1 and a small number; bytes.Repeat of one byte. -/
import Derived.Test.YtfnnfnklhejlmaaA
import Derived.Laws.MathBits
namespace Go.Proofs.Ytfnnfnklhejlmaa
open Go.RowKit

set_option maxHeartbeats 800000 in
theorem mul64_one (y : Nat) (hy : y ≤ 1048576) (w : World) : Calls Try.prog 32 #[.int .u64 1, .int .u64 (y : Int)] w fun e w' => e = .returned (.tuple #[.int .u64 0, .int .u64 (y : Int)]) ∧ w = w' := by
  have f1 : bits .and .u64 1 4294967295 = 1 := (and_low32 1 (by decide) (by decide)).trans rfl
  have f2 : bits .and .u64 (y : Int) 4294967295 = y := (and_low32 y (by omega) (by omega)).trans (by omega)
  have f3 : bits .and .u64 0 4294967295 = 0 := (and_low32 0 (by decide) (by decide)).trans rfl
  have f4 : (y : Int) / 4294967296 = 0 := by omega
  have f5 : IntKind.u64.wrap (y : Int) = y := IntWalk.u64_in _ (by omega)
  go_enter Try.func32, Try.ntmps32
  go_wp2
  go_ret2
  exact ⟨rfl, rfl⟩

set_option maxHeartbeats 800000 in
theorem mul_one (y : Nat) (hy : y ≤ 1048576) (w : World) : Calls Try.prog 28 #[.int .u64 1, .int .u64 (y : Int)] w fun e w' => e = .returned (.tuple #[.int .u64 0, .int .u64 (y : Int)]) ∧ w = w' := by
  go_enter Try.func28, Try.ntmps28
  go_wp2_with fail
  refine (mul64_one y hy _).mono ?_
  rintro e w1 ⟨rfl, rfl⟩
  go_wp2_with fail
  go_ret2
  exact ⟨rfl, rfl⟩

theorem size5 : (Try.prog.info? 5).map (·.size) = some 1 := by kernel_rfl

/-- the bytes that stand already -/
def Upto (cur : List Value) (k : Nat) (x : Int) : Prop := ∀ j, j < k → cur[j]? = some (.int .u8 x)
theorem upto_splice {cur : List Value} {k t : Nat} {x : Int} (h : Upto cur k x) (hl : k + t ≤ cur.length) : Upto (splice cur k (List.replicate t (.int .u8 x))) (k + t) x := by
  intro j hj
  unfold splice
  by_cases hk : j < k
  · rw [List.getElem?_append_left (by simp; omega), List.getElem?_take_of_lt hk]
    exact h j hk
  · rw [List.getElem?_append_right (by simp; omega), List.getElem?_append_left (by simp; omega), List.getElem?_replicate, if_pos (by simp; omega)]
theorem upto_one {cur : List Value} {x : Int} (hl : 1 ≤ cur.length) : Upto (splice cur 0 [.int .u8 x]) 1 x := by
  have := upto_splice (cur := cur) (k := 0) (t := 1) (x := x) (fun j hj => absurd hj (by omega)) (by omega)
  simpa using this
theorem upto_rb {w : World} {g n : Nat} {cur : List Value} {x : Int} (hg : w.heap[g]? = some (.cells cur.toArray 5 (0, 0))) (h : Upto cur n x) : RB w (some ⟨g, 0, none⟩) n (List.replicate n x) := by
  refine ⟨by simp, by simp [cellsU], fun _ => ⟨g, 0, rfl, (Array.getElem?_eq_some_iff.1 hg).1, fun j u hu => ?_⟩⟩
  have hj : j < n := by
    have := (List.getElem?_eq_some_iff.1 hu).1
    simpa [cellsU] using this
  rw [Nat.zero_add, cell_of_row w g j _ 5 (0, 0) hg]
  simp [cellsU, hj] at hu
  subst hu
  simpa using h j hj

/-- the operation at hand is this copy -/
theorem at_copy {P : Program} {ops : Array Oper} {Q : Exit → Act → World → Prop} {o : Oper} {rest : List Oper} {a : Act} {W : World} {d s : Operand} {ts : Array TypeId} (_ho : o.op = .call { callee := .builtin .copy, args := #[d, s], argTypes := ts }) (h : wpList P ops Q (o :: rest) a W) : wpList P ops Q (o :: rest) a W := h
/-- where a copy's cells come from, and where they go to -/
def Src (w : World) (dp sp : Option Addr) (g off : Nat) (cs : List Value) : Prop := 0 < cs.length → dp = some ⟨g, off, none⟩ ∧ ∃ ad, sp = some ad ∧ ∀ j v, cs[j]? = some v → w.cell? (ad.add j) = some v

set_option maxHeartbeats 1600000 in
theorem repeat_pos (b : Nat) (x : Int) (n c : Nat) (w : World) (hb : w.cell? ⟨b, 0, none⟩ = some (.int .u8 x)) (h0 : 1 ≤ n) (hn : n ≤ 8192) :
    Calls Try.prog 26 #[.slice (some ⟨b, 0, none⟩) 1 c, .int .i64 (n : Int)] w fun e w' => ∃ A c', e = .returned (.slice A n c') ∧ RB w' A n (List.replicate n x) ∧ Below w.heap.size w w' := by
  obtain ⟨cs, hrunM, hle, hmax⟩ := Lib.run_makeNoZero (P := Try.prog) w #[3] 22 5 Try.underlying22 n (by omega)
  have hcall : (callFunc 29 #[.int .i64 (n : Int)]).run Try.prog w = .ok (.value (.slice (some ⟨w.heap.size, 0, none⟩) n cs.size)) ((w.alloc (.cells cs 5)).drewN 2) := by
    rw [run_callFunc_extern Try.func29 (by kernel_rfl) (by kernel_rfl) (by kernel_rfl) (e := Extern.BytealgMakeNoZero.makeNoZero #[3] #[22]) (by kernel_rfl), hrunM]
    rfl
  clear hrunM hmax
  have f1 : IntKind.u64.wrap (n : Int) = n := IntWalk.u64_in _ (by omega)
  have f2 : IntKind.i64.wrap (n : Int) = n := IntWalk.i64_in _ (by omega)
  have i1 : (n : Int) ≤ (cs.size : Int) := by omega
  have f3 : ((n : Int) == 0) = false := by rw [beq_eq_false_iff_ne]; omega
  go_enter Try.func26, Try.ntmps26
  go_wp2_with fail
  refine (mul_one n (by omega) _).mono ?_
  rintro e w1 ⟨rfl, rfl⟩
  have HG : Hid (((w.alloc (.cells cs 5)).drewN 2).heap[w.heap.size]? = some (.cells cs.toList.toArray 5 (0, 0))) := hid (by simpa using heap_alloc_new w (.cells cs 5))
  have HB : Hid (Below w.heap.size w ((w.alloc (.cells cs 5)).drewN 2)) := hid (below_drewN ((Below.refl _ _).alloc (Nat.le_refl _) _) 2)
  have hbl := World.block_lt_of_cell? w _ hb
  have HC : Hid (((w.alloc (.cells cs 5)).drewN 2).cell? ⟨b, 0, none⟩ = some (.int .u8 x)) := hid ((HB.out.cell (p := ⟨b, 0, none⟩) hbl).trans hb)
  have H1 : Hid ([Value.int .u8 x].length = Nat.min 1 n) := hid (Nat.min_eq_left h0).symm
  have H2 : Src ((w.alloc (.cells cs 5)).drewN 2) (some ⟨w.heap.size, 0, none⟩) (some ⟨b, 0, none⟩) w.heap.size 0 [Value.int .u8 x] := by
    refine fun _ => ⟨rfl, _, rfl, fun j v hj => ?_⟩
    have : j = 0 := by
      have := (List.getElem?_eq_some_iff.1 hj).1
      simp at this; omega
    subst this
    simp at hj; subst hj
    exact HC.out
  have H3 : Hid (0 + [Value.int .u8 x].length ≤ cs.toList.length) := hid (by simp; omega)
  have H4 : Hid (∀ v ∈ [Value.int .u8 x], v.oneCell' = true) := hid (by intro v hv; simp at hv; subst hv; rfl)
  go_wp2_with ((with_reducible refine at_copy (d := .tmp 58) (s := .tmp 59) rfl ?_); refine wpList_copy_splice rfl (.tmp 58) (.tmp 59) 22 22 rfl 5 Try.underlying22 size5 (some ⟨w.heap.size, 0, none⟩) (some ⟨b, 0, none⟩) n n 1 c rfl rfl w.heap.size 0 cs.toList 5 HG.out [.int .u8 x] H1.out H2 H3.out H4.out w.heap.size w HB.out (Nat.le_refl _) ?_)
  intro w2 hg2 hb2
  have HB2 := hid hb2; have HG2 := hg2
  clear hcall hg2 hb2 HG HB HC H1 H2 H3 H4
  go_wp2_with fail
  go_loopw [10] (fun i wr => ∃ (k : Nat) (cur : List Value), 1 ≤ k ∧ k ≤ n ∧ i = .int .i64 k ∧ Hid (wr.heap[w.heap.size]? = some (.cells cur.toArray 5 (0, 0))) ∧ Hid (cur.length = cs.size) ∧ Hid (Upto cur k x) ∧ Hid (Below w.heap.size w wr)) (fun i _ => n - (intOf i).toNat)
  case atStart => exact ⟨1, _, Nat.le_refl _, h0, rfl, HG2, hid (by rw [length_splice _ _ _ (by simp; omega)]; simp), hid (upto_one (by simp; omega)), HB2⟩
  case round =>
    obtain ⟨k, cur, hk1, hk, rfl, HG, HL, HU, HB⟩ := hrel
    by_cases hlt : k < n
    · obtain ⟨t, ht⟩ : ∃ t, t = min k (n - k) := ⟨_, rfl⟩
      have ht1 : t ≤ k := by omega
      have ht2 : t ≤ n - k := by omega
      have ht3 : 1 ≤ t := by omega
      have H1 : Hid ((List.replicate t (Value.int .u8 x)).length = Nat.min k (n - k)) := hid (by rw [List.length_replicate]; exact ht)
      have H2 : Src wr.drew (some ⟨w.heap.size, k, none⟩) (some ⟨w.heap.size, 0, none⟩) w.heap.size k (List.replicate t (Value.int .u8 x)) := by
        refine fun _ => ⟨rfl, _, rfl, fun j v hj => ?_⟩
        have hjt : j < t := by
          have := (List.getElem?_eq_some_iff.1 hj).1
          simpa using this
        simp [hjt] at hj
        subst hj
        have : (⟨w.heap.size, 0, none⟩ : Addr).add j = ⟨w.heap.size, j, none⟩ := by unfold Addr.add; split <;> simp_all
        rw [this]
        refine (cell_of_row wr w.heap.size j _ 5 (0, 0) HG.out).trans ?_
        simpa using HU.out j (by omega)
      have H3 : Hid (k + (List.replicate t (Value.int .u8 x)).length ≤ cur.length) := hid (by rw [List.length_replicate, HL.out]; omega)
      have H4 : Hid (∀ v ∈ List.replicate t (Value.int .u8 x), v.oneCell' = true) := hid (by intro v hv; rw [List.eq_of_mem_replicate hv]; rfl)
      have HT := hid ht
      have hnk : ¬ n = k := by omega
      have hsum : k + t ≤ n := by omega
      have hw : IntKind.i64.wrap ((k : Int) + (t : Int)) = ((k + t : Nat) : Int) := by rw [show (k : Int) + (t : Int) = ((k + t : Nat) : Int) by omega]; exact IntWalk.i64_in _ (by omega)
      have HSUM := hid hsum; clear hsum
      have H31 := hid ht3
      clear ht
      go_wp2_with fail
      go_region_law (refine step_copy_splice rfl (.tmp 70) (.tmp 73) 22 22 rfl 5 Try.underlying22 size5 (some ⟨w.heap.size, k, none⟩) (some ⟨w.heap.size, 0, none⟩) (n - k) (n - k) k n (by simp [Act.eval, Act.put]) (by simp [Act.eval, Act.put]) w.heap.size k cur 5 HG.out (List.replicate t (.int .u8 x)) H1.out H2 H3.out H4.out w.heap.size w HB.out.drew (Nat.le_refl _) ?_; intro w3 hg3 hb3)
      have HG3 := hg3; have HB3 := hid hb3
      clear hg3 hb3
      simp only [Act.put]
      go_simp
      go_wp2
      go_roundw
      case rel => exact ⟨k + t, _, by omega, HSUM.out, by first | rfl | go_num, HG3, hid (by rw [length_splice _ _ _ H3.out]; exact HL.out), hid (upto_splice HU.out (by have := H3.out; rw [List.length_replicate] at this; exact this)), HB3⟩
      case measure => have h1 := HSUM.out; have h2 := H31.out; simp only [intOf]; simp; omega
    · obtain rfl : k = n := by omega
      go_wp2_with fail
      go_ret
      exact ⟨_, _, rfl, upto_rb HG.out HU.out, HB.out⟩

set_option maxHeartbeats 800000 in
theorem repeat_any (b : Nat) (x : Int) (n c : Nat) (w : World) (hb : w.cell? ⟨b, 0, none⟩ = some (.int .u8 x)) (hn : n ≤ 8192) :
    Calls Try.prog 26 #[.slice (some ⟨b, 0, none⟩) 1 c, .int .i64 (n : Int)] w fun e w' => ∃ A c', e = .returned (.slice A n c') ∧ RB w' A n (List.replicate n x) ∧ Below w.heap.size w w' := by
  by_cases h0 : 1 ≤ n
  · exact repeat_pos b x n c w hb h0 hn
  · obtain rfl : n = 0 := by omega
    go_enter Try.func26, Try.ntmps26
    go_wp2
    go_ret
    exact ⟨_, _, rfl, RB.nil _ _, (Below.refl _ _).alloc (Nat.le_refl _) _⟩
end Go.Proofs.Ytfnnfnklhejlmaa
