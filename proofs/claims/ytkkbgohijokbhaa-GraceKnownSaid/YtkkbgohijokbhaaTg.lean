/- book.done: Call. -/
import Derived.Test.YtkkbgohijokbhaaTf
namespace Go.Proofs.Ytkkbgohijokbhaa
open Go.RowKit
open Gr (Noted)

theorem bcall_deep (s : Gr.St) (c i : Int) : (s.call c i).1.deep = s.deep := by
  unfold Gr.St.call
  split
  · split
    · rfl
    · split
      · rfl
      · dsimp only
        split <;> split <;> rfl
  · rfl

/-- an append whose run is known, in a region -/
theorem step_append_run {P : Program} {ops : Array Oper} {o : Oper} {a : Act} {w : World} {K : Act → World → Prop} {Q : Exit → Act → World → Prop} {E : Prop} (hgd : o.guard = none) (s x : Operand) (t : TypeId)
    (ho : o.op = .call { callee := .builtin .append, args := #[s, x], argTypes := #[t, t] }) (v u : Value) (hs : a.eval s = v) (hx : a.eval x = u) (v' : Value) (w' : World)
    (hrun : (Builtin.append_ #[t, t] o.type #[v, u]).run P w = .ok v' w') (h : K (a.put o.dst v') w') : if Region.wanted o (yielded ops a.tmps) = true then Oper.wp P o a w K Q else E := by
  have hw : Region.wanted o (yielded ops a.tmps) = true := by simp [Region.wanted, hgd]
  rw [if_pos hw]
  unfold Oper.wp execOp
  simp only [ho, resolve, invoke, builtin, Sem.run_bind, Sem.run_pure, Result.andThen_ok, List.map_toArray, List.map_cons, List.map_nil, hs, hx, hrun]
  exact h

set_option maxHeartbeats 6400000 in
set_option maxRecDepth 100000 in
theorem bdone3 (w0 w : World) (g k : Nat) (s : Gr.St) (V : Nat → Value) (L : Nat → List Noted) (E o c i : Int) (h : Both w0 w g k s V L E) (hE : E ≤ 1000000) (h5 : o % 5 = 3) :
    Calls Try.prog 39 #[.pointer (some ⟨k, 0, none⟩), .pointer (some ⟨g, 0, none⟩), .agg #[.int .i64 o, .int .i64 c, .int .i64 i]] w (Done w0 g k E) := by
  have hb0 : Below w.heap.size w (w.alloc (.cells #[.int .i64 o, .int .i64 c, .int .i64 i] 48)) := (Below.refl _ _).alloc (Nat.le_refl _) _
  have H := hid (h.below hb0)
  have H5 := hid h5
  obtain ⟨x, hx3⟩ : ∃ x : Nat, c % 3 = (x : Int) := ⟨(c % 3).toNat, by omega⟩
  have hx : x < 3 := by omega
  have HX := hid hx3
  clear h h5 hb0 hx3
  go_enter Try.func39, Try.ntmps39
  go_wp2_with fail
  refine (bring_any c 3 (by decide) (by decide) _).mono ?_
  rintro e w1 ⟨rfl, rfl⟩
  rw [HX.out]
  go_wp2_with fail
  refine (bring_any o 5 (by decide) (by decide) _).mono ?_
  rintro e w1 ⟨rfl, rfl⟩
  rw [H5.out]
  go_wp2_with fail
  refine (bring_any i 1000 (by decide) (by decide) _).mono ?_
  rintro e w1 ⟨rfl, rfl⟩
  go_wp2_with fail
  generalize (w.alloc (.cells #[.int .i64 o, .int .i64 c, .int .i64 i] 48)) = w1 at H ⊢
  generalize i % 1000 = id
  refine (call_any g s E x id _ H.out.S.G H.out.O hE).mono ?_
  rintro e w2 ⟨rfl, hG, hF⟩
  have hO := H.out.O.call_ x id
  have hdp := bcall_deep s x id
  have hk := H.out.K.machine H.out.S.G hF
  have hs := H.out.S.step hG hF
  have hWT := H.out.T.call H.out.O hx id
  have hlen := wt_len H.out.T H.out.O hx
  obtain ⟨s2, hs2⟩ : ∃ s2, s2 = (s.call x id).1 := ⟨_, rfl⟩
  obtain ⟨er, her⟩ : ∃ er, er = (s.call x id).2 := ⟨_, rfl⟩
  rw [← hs2, ← her] at hWT
  rw [← hs2] at hO hs hdp
  rw [← her]
  rw [← hdp] at hk
  obtain ⟨d0, d1, d2, hd⟩ := list3 H.out.T.n3
  have HN : Hid (Gr.notedOf s id = ((id, s.callAt), ([decide (0 < d0), decide (0 < d1), decide (0 < d2), false, false, false, false, false], [true, true, true, false, false, false, false, false]))) := hid (by
    unfold Gr.notedOf Gr.insOf Gr.silOf; rw [hd]; rfl)
  have HK := hid hk; have HS := hid hs; have HO := hid hO; have HWT := hid hWT; have HL := hid hlen
  have HDP := hid (hdp.trans hd)
  clear hs2 her hO hs hk hG hF hWT hdp hd hlen
  by_cases h0 : er = 0
  · subst h0
    have HT : Hid (Gr.Wt s2 (Gr.upd L x (L x ++ [Gr.notedOf s id]))) := hid (by
      rcases HWT.out with ⟨a, b⟩ | ⟨a, b⟩
      · exact absurd rfl a
      · exact b)
    have e0 := HK.out.deepAt (j := 0) (by omega)
    have e1 := HK.out.deepAt (j := 1) (by omega)
    have e2 := HK.out.deepAt (j := 2) (by omega)
    rw [HDP.out] at e0 e1 e2
    simp at e0 e1 e2
    have hkl := HK.out.main.lt
    have f0 : ∀ ob : Obj, (w2.alloc ob).cell? ⟨k, 0, none⟩ = some (.int .i64 d0) := fun ob => (World.cell?_of_block (Below.heap_alloc w2 ob k hkl)).trans e0
    have f1 : ∀ ob : Obj, (w2.alloc ob).cell? ⟨k, 1, none⟩ = some (.int .i64 d1) := fun ob => (World.cell?_of_block (Below.heap_alloc w2 ob k hkl)).trans e1
    have f2 : ∀ ob : Obj, (w2.alloc ob).cell? ⟨k, 2, none⟩ = some (.int .i64 d2) := fun ob => (World.cell?_of_block (Below.heap_alloc w2 ob k hkl)).trans e2
    clear HWT e0 e1 e2 hkl
    go_wp2_with fail
    refine wp_loop_rounds 4 ?_
    rw [rounds_succ]
    go_wp2_with fail
    rw [rounds_succ]
    go_wp2_with fail
    rw [rounds_succ]
    go_wp2_with fail
    rw [rounds_succ]
    go_wp2_with fail
    have hX := Blk.new w2 86 #[.int .i64 id, .bool (decide (0 < d0)), .bool (decide (0 < d1)), .bool (decide (0 < d2)), .bool false, .bool false, .bool false, .bool false, .bool false, .bool true, .bool true, .bool true, .bool false, .bool false, .bool false, .bool false, .bool false]
    have hBl : Below w2.heap.size w2 (w2.alloc (.cells #[.int .i64 id, .bool (decide (0 < d0)), .bool (decide (0 < d1)), .bool (decide (0 < d2)), .bool false, .bool false, .bool false, .bool false, .bool false, .bool true, .bool true, .bool true, .bool false, .bool false, .bool false, .bool false, .bool false] 86)) := (Below.refl _ _).alloc (Nat.le_refl _) _
    have HK3 := hid (HK.out.below hBl); have HS3 := hid (HS.out.below hBl)
    obtain ⟨X, hXe⟩ : ∃ X, X = w2.heap.size := ⟨_, rfl⟩
    rw [← hXe] at hX ⊢
    obtain ⟨w3, hw3⟩ : ∃ w3, w3 = w2.alloc (.cells #[.int .i64 id, .bool (decide (0 < d0)), .bool (decide (0 < d1)), .bool (decide (0 < d2)), .bool false, .bool false, .bool false, .bool false, .bool false, .bool true, .bool true, .bool true, .bool false, .bool false, .bool false, .bool false, .bool false] 86) := ⟨_, rfl⟩
    rw [← hw3] at hX HK3 HS3 ⊢
    have c0 := hX.cell 0
    have c1 := hX.cell 1
    have c2 := hX.cell 2
    have c3 := hX.cell 3
    have c4 := hX.cell 4
    have c5 := hX.cell 5
    have c6 := hX.cell 6
    have c7 := hX.cell 7
    have c8 := hX.cell 8
    have c9 := hX.cell 9
    have c10 := hX.cell 10
    have c11 := hX.cell 11
    have c12 := hX.cell 12
    have c13 := hX.cell 13
    have c14 := hX.cell 14
    have c15 := hX.cell 15
    have c16 := hX.cell 16
    simp at c0 c1 c2 c3 c4 c5 c6 c7 c8 c9 c10 c11 c12 c13 c14 c15 c16
    obtain ⟨A, cc, hv, hl1, hl2⟩ := (HK3.out.row x hx).slice
    have cv := HK3.out.callsAt hx
    have hKW : BRep (w3.alloc (.cells #[.int .i64 id, .bool (decide (0 < d0)), .bool (decide (0 < d1)), .bool (decide (0 < d2)), .bool false, .bool false, .bool false, .bool false, .bool false, .bool true, .bool true, .bool true, .bool false, .bool false, .bool false, .bool false, .bool false] 86)).drew w0.heap.size k s2.deep V L := (HK3.out.below ((Below.refl _ _).alloc (Nat.le_refl _) _)).drew
    have hSW : Solo w0 (w3.alloc (.cells #[.int .i64 id, .bool (decide (0 < d0)), .bool (decide (0 < d1)), .bool (decide (0 < d2)), .bool false, .bool false, .bool false, .bool false, .bool false, .bool true, .bool true, .bool true, .bool false, .bool false, .bool false, .bool false, .bool false] 86)).drew g s2 := (HS3.out.below ((Below.refl _ _).alloc (Nat.le_refl _) _)).drewN 1
    obtain ⟨A', c', w', hrun, hK', hR', hF', hap⟩ := append_rec (w3.alloc (.cells #[.int .i64 id, .bool (decide (0 < d0)), .bool (decide (0 < d1)), .bool (decide (0 < d2)), .bool false, .bool false, .bool false, .bool false, .bool false, .bool true, .bool true, .bool true, .bool false, .bool false, .bool false, .bool false, .bool false] 86)).drew w0.heap.size k x s2.deep V L hKW hx (Gr.notedOf s id) (by rw [HN.out]; rfl) (by rw [HN.out]; rfl) w3.heap.size
      (fun j u hu => by
        rw [HN.out] at hu
        refine ((Blk.new w3 86 #[.int .i64 id, .bool (decide (0 < d0)), .bool (decide (0 < d1)), .bool (decide (0 < d2)), .bool false, .bool false, .bool false, .bool false, .bool false, .bool true, .bool true, .bool true, .bool false, .bool false, .bool false, .bool false, .bool false]).cell j).trans ?_
        rw [← hu]
        simp [recCells])
      (by have := HL.out; omega) hSW.B.size 70
    have cw := hK'.callsAt hx
    have fw := hK'.frozen (3 + x)
    rw [hv] at hrun cv cw
    obtain ⟨n, hn⟩ : ∃ n, n = (L x).length := ⟨_, rfl⟩
    rw [← hn] at hrun cv cw hR' hap hv
    have hkl := HK3.out.main.lt
    have cv2 : ∀ ob : Obj, (w3.alloc ob).cell? ⟨k, 3 + x, none⟩ = some (.slice A n cc) := fun ob => (World.cell?_of_block (Below.heap_alloc w3 ob k hkl)).trans cv
    have hx3i : (x : Int) < 3 := by omega
    have HK' := hid hK'; have HR' := hid hR'; have HF' := hid hF'; have HAP := hid hap; have HSW := hid hSW; have HV := hid hv
    have HNL := hid hn
    clear hX hBl hXe hw3 hK' hR' hF' hap hSW hKW hv hn hl1 hl2 f0 f1 f2 hkl
    have HB : Hid (Both w0 (w'.setCell ⟨k, 3 + x, none⟩ (.slice A' (n + 1) c')) g k s2 (fun j => if j = x then .slice A' (n + 1) c' else V j) (Gr.upd L x (L x ++ [Gr.notedOf s id])) E) :=
      hid ⟨(HSW.out.fk HF'.out).fk (HK'.out.fk_k (3 + x) (.slice A' (n + 1) c')), HK'.out.setRow hx _ _ HR'.out HAP.out, HT.out, HO.out⟩
    have cd := HB.out.K.deepAt hx
    obtain ⟨D, hD⟩ : ∃ D, s2.deep.getD x 0 = D := ⟨_, rfl⟩
    rw [hD] at cd
    have HD := hid hD
    have HN3 : Hid (x < s2.deep.length) := hid (by rw [HDP.out]; exact hx)
    clear hD
    go_region_law (refine step_append_run rfl (.tmp 148) (.tmp 150) 70 rfl _ _ (by simp [Act.eval]) (by simp [Act.eval]) _ _ hrun ?_)
    all_goals
      clear hrun cw fw cv2 c0 c1 c2 c3 c4 c5 c6 c7 c8 c9 c10 c11 c12 c13 c14 c15 c16 cv
      generalize w'.setCell ⟨k, 3 + x, none⟩ (.slice A' (n + 1) c') = w5 at HB cd ⊢
      go_wp2_with fail
      go_quiet ((go_at_call 35; exact depth_quiet HB.out.S.G HB.out.O HN3.out HD.out))
      go_wp2_with fail
      go_ret
      exact ⟨rfl, _, _, _, (HB.out.drewN _).mono (by omega)⟩
  · have HT : Hid (Gr.Wt s2 L) := hid (by
      rcases HWT.out with ⟨a, b⟩ | ⟨a, b⟩
      · exact b
      · exact absurd a h0)
    have HB : Hid (Both w0 w2 g k s2 V L E) := hid ⟨HS.out, HK.out, HT.out, HO.out⟩
    have h0' : (er == 0) = false := by rw [beq_eq_false_iff_ne]; exact h0
    have cd := HB.out.K.deepAt hx
    obtain ⟨D, hD⟩ : ∃ D, s2.deep.getD x 0 = D := ⟨_, rfl⟩
    rw [hD] at cd
    have HD := hid hD
    have HN3 : Hid (x < s2.deep.length) := hid (by rw [HDP.out]; exact hx)
    clear hD
    clear HWT h0
    go_wp2_with fail
    go_quiet ((go_at_call 35; exact depth_quiet HB.out.S.G HB.out.O HN3.out HD.out))
    go_wp2_with fail
    go_ret
    exact ⟨rfl, _, _, _, (HB.out.drewN _).mono (by omega)⟩
end Go.Proofs.Ytkkbgohijokbhaa
