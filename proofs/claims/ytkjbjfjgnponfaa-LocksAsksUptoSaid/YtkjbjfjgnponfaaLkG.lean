/- Package locks: guarded, by contract. -/
import Derived.Test.YtkjbjfjgnponfaaLkF
import Derived.Conc.MuLone
namespace Go.Proofs.Ytkjbjfjgnponfaa
open Go.RowKit Go.MuLone
set_option linter.unusedSimpArgs false
theorem guarded_acquire (T Q : Nat) (w : World) (Post : World → Prop) (h0 : w.cell? ⟨T, 0, none⟩ = some (.int .i32 0)) (f0 : w.frozen? ⟨T, 0, none⟩ = false)
    (hcall : Calls Try.prog 35 #[.pointer (some ⟨Q, 0, none⟩)] (w.setCell ⟨T, 0, none⟩ (.int .i32 1)) fun e w' => e = .returned (.tuple #[]) ∧ w'.cell? ⟨T, 0, none⟩ = some (.int .i32 1) ∧ w'.frozen? ⟨T, 0, none⟩ = false ∧ Post (w'.setCell ⟨T, 0, none⟩ (.int .i32 0))) :
    Calls Try.prog 33 #[.pointer (some ⟨T, 0, none⟩), .func (.func 35) #[.pointer (some ⟨Q, 0, none⟩)] #[]] w fun e w' => e = .returned (.tuple #[]) ∧ Post w' := by
  have HC := Lib.hid hcall
  clear hcall
  go_enter_defers Try.func33, Try.ntmps33
  go_wp2_with (go_at_call 50; refine (lock_free muLib ⟨T, 0, none⟩ _ h0 f0).mono ?_; rintro e w' ⟨rfl, rfl⟩)
  refine HC.out.mono ?_
  rintro e w1 ⟨rfl, h1, f1, hP⟩
  have HP := Lib.hid hP
  clear hP
  go_wp2_with fail
  refine leaves_cons (f := 51) (args := #[.pointer (some ⟨T, 0, none⟩)]) (by simp) (by simp [go_sem]) ?_
  refine (unlock_deferred muLib ⟨T, 0, none⟩ .returning _ h1 f1).mono ?_
  rintro e u' w'' ⟨rfl, rfl, rfl⟩
  exact ⟨_, results_none rfl _ _ _, rfl, HP.out⟩
theorem guarded_release (T Q : Nat) (w : World) (Post : World → Prop) (h0 : w.cell? ⟨T, 0, none⟩ = some (.int .i32 0)) (f0 : w.frozen? ⟨T, 0, none⟩ = false)
    (hcall : Calls Try.prog 36 #[.pointer (some ⟨Q, 0, none⟩)] (w.setCell ⟨T, 0, none⟩ (.int .i32 1)) fun e w' => e = .returned (.tuple #[]) ∧ w'.cell? ⟨T, 0, none⟩ = some (.int .i32 1) ∧ w'.frozen? ⟨T, 0, none⟩ = false ∧ Post (w'.setCell ⟨T, 0, none⟩ (.int .i32 0))) :
    Calls Try.prog 33 #[.pointer (some ⟨T, 0, none⟩), .func (.func 36) #[.pointer (some ⟨Q, 0, none⟩)] #[]] w fun e w' => e = .returned (.tuple #[]) ∧ Post w' := by
  have HC := Lib.hid hcall
  clear hcall
  go_enter_defers Try.func33, Try.ntmps33
  go_wp2_with (go_at_call 50; refine (lock_free muLib ⟨T, 0, none⟩ _ h0 f0).mono ?_; rintro e w' ⟨rfl, rfl⟩)
  refine HC.out.mono ?_
  rintro e w1 ⟨rfl, h1, f1, hP⟩
  have HP := Lib.hid hP
  clear hP
  go_wp2_with fail
  refine leaves_cons (f := 51) (args := #[.pointer (some ⟨T, 0, none⟩)]) (by simp) (by simp [go_sem]) ?_
  refine (unlock_deferred muLib ⟨T, 0, none⟩ .returning _ h1 f1).mono ?_
  rintro e u' w'' ⟨rfl, rfl, rfl⟩
  exact ⟨_, results_none rfl _ _ _, rfl, HP.out⟩
theorem guarded_list (T Q : Nat) (w : World) (Post : World → Prop) (h0 : w.cell? ⟨T, 0, none⟩ = some (.int .i32 0)) (f0 : w.frozen? ⟨T, 0, none⟩ = false)
    (hcall : Calls Try.prog 34 #[.pointer (some ⟨Q, 0, none⟩)] (w.setCell ⟨T, 0, none⟩ (.int .i32 1)) fun e w' => e = .returned (.tuple #[]) ∧ w'.cell? ⟨T, 0, none⟩ = some (.int .i32 1) ∧ w'.frozen? ⟨T, 0, none⟩ = false ∧ Post (w'.setCell ⟨T, 0, none⟩ (.int .i32 0))) :
    Calls Try.prog 33 #[.pointer (some ⟨T, 0, none⟩), .func (.func 34) #[.pointer (some ⟨Q, 0, none⟩)] #[]] w fun e w' => e = .returned (.tuple #[]) ∧ Post w' := by
  have HC := Lib.hid hcall
  clear hcall
  go_enter_defers Try.func33, Try.ntmps33
  go_wp2_with (go_at_call 50; refine (lock_free muLib ⟨T, 0, none⟩ _ h0 f0).mono ?_; rintro e w' ⟨rfl, rfl⟩)
  refine HC.out.mono ?_
  rintro e w1 ⟨rfl, h1, f1, hP⟩
  have HP := Lib.hid hP
  clear hP
  go_wp2_with fail
  refine leaves_cons (f := 51) (args := #[.pointer (some ⟨T, 0, none⟩)]) (by simp) (by simp [go_sem]) ?_
  refine (unlock_deferred muLib ⟨T, 0, none⟩ .returning _ h1 f1).mono ?_
  rintro e u' w'' ⟨rfl, rfl, rfl⟩
  exact ⟨_, results_none rfl _ _ _, rfl, HP.out⟩
end Go.Proofs.Ytkjbjfjgnponfaa
