/- machines that are none: each method's answer. -/
import Derived.Test.YtkkbgohijokbhaaTh
namespace Go.Proofs.Ytkkbgohijokbhaa
open Go.RowKit

/-- no machine, or one that was never made by New -/
def NoM (w : World) (P : Option Addr) : Prop := P = none ∨ ∃ g, P = some ⟨g, 0, none⟩ ∧ w.cell? ⟨g, 0, none⟩ = some (.int .i64 0)
theorem asked_none (P : Option Addr) (c : Int) (w : World) (h : NoM w P) : Calls Try.prog 53 #[.pointer P, .int .i64 c] w fun e w' => e = .returned (.int .i64 1) ∧ w = w' := by
  rcases h with rfl | ⟨g, rfl, hc⟩
  · exact asked_nil c w
  · exact asked_zero g c w hc

set_option maxHeartbeats 800000 in
theorem poll_none (P : Option Addr) (c : Int) (w : World) (h : NoM w P) : Calls Try.prog 29 #[.pointer P, .int .i64 c] w fun e w' => e = .returned (.tuple #[.slice none 0 0, .int .i64 1]) ∧ w = w' := by
  have H := hid h
  clear h
  go_enter Try.func29, Try.ntmps29
  go_wp2_with fail
  refine (asked_none P _ _ H.out).mono ?_
  rintro e w1 ⟨rfl, rfl⟩
  go_wp2_with fail
  go_ret2
  exact ⟨rfl, rfl⟩

set_option maxHeartbeats 800000 in
theorem donef_none (P : Option Addr) (w : World) (h : NoM w P) : Calls Try.prog 30 #[.pointer P] w fun e w' => e = .returned (.tuple #[.int .i64 0, .bool false]) ∧ w = w' := by
  have H := hid h
  clear h
  go_enter Try.func30, Try.ntmps30
  go_wp2_with fail
  refine (asked_none P _ _ H.out).mono ?_
  rintro e w1 ⟨rfl, rfl⟩
  go_wp2_with fail
  go_ret2
  exact ⟨rfl, rfl⟩

set_option maxHeartbeats 800000 in
theorem lock_none (P : Option Addr) (c : Int) (w : World) (h : NoM w P) : Calls Try.prog 31 #[.pointer P, .int .i64 c] w fun e w' => e = .returned (.int .i64 1) ∧ w = w' := by
  have H := hid h
  clear h
  go_enter Try.func31, Try.ntmps31
  go_wp2_with fail
  refine (asked_none P _ _ H.out).mono ?_
  rintro e w1 ⟨rfl, rfl⟩
  go_wp2_with fail
  go_ret
  exact ⟨rfl, rfl⟩

set_option maxHeartbeats 800000 in
theorem unlock_none (P : Option Addr) (c : Int) (w : World) (h : NoM w P) : Calls Try.prog 32 #[.pointer P, .int .i64 c] w fun e w' => e = .returned (.int .i64 1) ∧ w = w' := by
  have H := hid h
  clear h
  go_enter Try.func32, Try.ntmps32
  go_wp2_with fail
  refine (asked_none P _ _ H.out).mono ?_
  rintro e w1 ⟨rfl, rfl⟩
  go_wp2_with fail
  go_ret
  exact ⟨rfl, rfl⟩

set_option maxHeartbeats 800000 in
theorem quiet_none (P : Option Addr) (c : Int) (w : World) (h : NoM w P) : Calls Try.prog 33 #[.pointer P, .int .i64 c] w fun e w' => e = .returned (.int .i64 1) ∧ w = w' := by
  have H := hid h
  clear h
  go_enter Try.func33, Try.ntmps33
  go_wp2_with fail
  refine (asked_none P _ _ H.out).mono ?_
  rintro e w1 ⟨rfl, rfl⟩
  go_wp2_with fail
  go_ret
  exact ⟨rfl, rfl⟩

set_option maxHeartbeats 800000 in
theorem call_none (P : Option Addr) (c i : Int) (w : World) (h : NoM w P) : Calls Try.prog 34 #[.pointer P, .int .i64 c, .int .i64 i] w fun e w' => e = .returned (.int .i64 1) ∧ w = w' := by
  have H := hid h
  clear h
  go_enter Try.func34, Try.ntmps34
  go_wp2_with fail
  refine (asked_none P _ _ H.out).mono ?_
  rintro e w1 ⟨rfl, rfl⟩
  go_wp2_with fail
  go_ret
  exact ⟨rfl, rfl⟩

set_option maxHeartbeats 800000 in
theorem depth_none (P : Option Addr) (c : Int) (w : World) (h : NoM w P) : Calls Try.prog 35 #[.pointer P, .int .i64 c] w fun e w' => e = .returned (.int .i64 0) ∧ w = w' := by
  have H := hid h
  clear h
  go_enter Try.func35, Try.ntmps35
  go_wp2_with fail
  refine (asked_none P _ _ H.out).mono ?_
  rintro e w1 ⟨rfl, rfl⟩
  go_wp2_with fail
  go_ret
  exact ⟨rfl, rfl⟩

set_option maxHeartbeats 800000 in
theorem waits_none (P : Option Addr) (c : Int) (w : World) (h : NoM w P) : Calls Try.prog 36 #[.pointer P, .int .i64 c] w fun e w' => e = .returned (.int .i64 0) ∧ w = w' := by
  have H := hid h
  clear h
  go_enter Try.func36, Try.ntmps36
  go_wp2_with fail
  refine (asked_none P _ _ H.out).mono ?_
  rintro e w1 ⟨rfl, rfl⟩
  go_wp2_with fail
  go_ret
  exact ⟨rfl, rfl⟩

set_option maxHeartbeats 800000 in
theorem wanted_none (P : Option Addr) (c : Int) (w : World) (h : NoM w P) : Calls Try.prog 37 #[.pointer P, .int .i64 c] w fun e w' => e = .returned (.bool false) ∧ w = w' := by
  have H := hid h
  clear h
  go_enter Try.func37, Try.ntmps37
  go_wp2_with fail
  refine (asked_none P _ _ H.out).mono ?_
  rintro e w1 ⟨rfl, rfl⟩
  go_wp2_with fail
  go_ret
  exact ⟨rfl, rfl⟩
end Go.Proofs.Ytkkbgohijokbhaa
