import Derived.Test.YtimmhlakmcehaaaOpen
import Derived.Test.YtimmhlakmcehaaaG0
import Derived.KernelRfl
/- The laws' own types, opened: what a reading of each tells. -/
namespace Go.Proofs.Ytimmhlakmcehaaa.G
open Go.RowKit Go.Proofs.YtimmhlakmcehaaaW.PrintWords Go.Proofs.YtimmhlakmcehaaaW.OpenData
set_option linter.unusedVariables false
mutual
def ex_t25 : S25 → Prop
  | ⟨_, _, ps⟩ => ps.length ≤ 9223372036854775807 ∧ ex_c25 ps
def ex_c25 : List S25 → Prop
  | [] => True
  | p :: ps => ex_t25 p ∧ ex_c25 ps
end
theorem ex_c25_of {ps : List S25} (h : ∀ p ∈ ps, ex_t25 p) : ex_c25 ps := by
  induction ps with
  | nil => simp [ex_c25]
  | cons q ps ih => simp only [ex_c25]; exact ⟨h q (by simp), ih (fun p hp => h p (by simp [hp]))⟩
theorem opens_t25 : ∀ n, Opens Try.prog 25 k25 ex_t25 n := fun n => opens_fix (fun d n hs h => opens_imp (opens_struct3 (fun x : S25 => (x.f0, x.f1, x.f2)) S25.mk (fun _ _ _ => rfl) Try.underlying25 (by kernel_rfl) rfl rfl rfl (by kernel_rfl) (by kernel_rfl) (by kernel_rfl) (opens_int Try.underlying3 (n + 1)) (opens_int Try.underlying3 (n + 1)) (opens_slice Try.underlying23 (by rw [hs]; kernel_rfl) h)) (by omega) (fun x hx => by
  cases x
  simp only [ex_t25]
  exact ⟨hx.2.2.1, ex_c25_of hx.2.2.2⟩)) n
def ex_sl25 (xs : List (S25)) : Prop := xs.length ≤ 9223372036854775807 ∧ ∀ x ∈ xs, (ex_t25) x
theorem opens_sl25 : ∀ n, Opens Try.prog 23 (Kd.slice 25 k25) ex_sl25 n := fun n => opens_imp (opens_slice Try.underlying23 (by kernel_rfl) ((opens_t25) n)) (Nat.le_succ n) (fun _ h => h)
def ex_t114 (x : S114) : Prop := (fun x : Int => (Lit.int .i64 x).wf = true) x.f0 ∧ (fun x : Int => (Lit.int .i64 x).wf = true) x.f1
theorem opens_t114 : ∀ n, Opens Try.prog 114 k114 ex_t114 n := fun n => opens_imp (opens_struct2 (fun x : S114 => (x.f0, x.f1)) S114.mk (fun _ _  => rfl) Try.underlying114 (by kernel_rfl) rfl rfl (by kernel_rfl) (by kernel_rfl) ((fun n => opens_int Try.underlying3 n) n) ((fun n => opens_int Try.underlying3 n) n)) (Nat.le_succ n) (fun _ h => h)
def ex_sl114 (xs : List (S114)) : Prop := xs.length ≤ 9223372036854775807 ∧ ∀ x ∈ xs, (ex_t114) x
theorem opens_sl114 : ∀ n, Opens Try.prog 45 (Kd.slice 114 k114) ex_sl114 n := fun n => opens_imp (opens_slice Try.underlying45 (by kernel_rfl) ((opens_t114) n)) (Nat.le_succ n) (fun _ h => h)
def ex_t47 (x : S47) : Prop := (fun x : Int => (Lit.int .i64 x).wf = true) x.f0 ∧ (ex_sl114) x.f1 ∧ (fun x : Int => (Lit.int .i64 x).wf = true) x.f2
theorem opens_t47 : ∀ n, Opens Try.prog 47 k47 ex_t47 n := fun n => opens_imp (opens_struct3 (fun x : S47 => (x.f0, x.f1, x.f2)) S47.mk (fun _ _ _  => rfl) Try.underlying47 (by kernel_rfl) rfl rfl rfl (by kernel_rfl) (by kernel_rfl) (by kernel_rfl) ((fun n => opens_int Try.underlying3 n) n) ((opens_sl114) n) ((fun n => opens_int Try.underlying3 n) n)) (Nat.le_succ n) (fun _ h => h)
def ex_sl47 (xs : List (S47)) : Prop := xs.length ≤ 9223372036854775807 ∧ ∀ x ∈ xs, (ex_t47) x
theorem opens_sl47 : ∀ n, Opens Try.prog 35 (Kd.slice 47 k47) ex_sl47 n := fun n => opens_imp (opens_slice Try.underlying35 (by kernel_rfl) ((opens_t47) n)) (Nat.le_succ n) (fun _ h => h)
def ex_sl3 (xs : List (Int)) : Prop := xs.length ≤ 9223372036854775807 ∧ ∀ x ∈ xs, (fun x : Int => (Lit.int .i64 x).wf = true) x
theorem opens_sl3 : ∀ n, Opens Try.prog 48 (Kd.slice 3 (Kd.int .i64)) ex_sl3 n := fun n => opens_imp (opens_slice Try.underlying48 (by kernel_rfl) ((fun n => opens_int Try.underlying3 n) n)) (Nat.le_succ n) (fun _ h => h)
def ex_sl4 (xs : List (Bool)) : Prop := xs.length ≤ 9223372036854775807 ∧ ∀ x ∈ xs, (fun _ : Bool => True) x
theorem opens_sl4 : ∀ n, Opens Try.prog 59 (Kd.slice 4 Kd.bool) ex_sl4 n := fun n => opens_imp (opens_slice Try.underlying59 (by kernel_rfl) ((fun n => opens_bool Try.underlying4 n) n)) (Nat.le_succ n) (fun _ h => h)
end Go.Proofs.Ytimmhlakmcehaaa.G
