import Derived.Test.YtjjcoiicikaaiaaGreatPlaceImprovesLay
import Derived.Test.YtjjcoiicikaaiaaGreatPlaceImprovesFx1
import Derived.Test.YtjjcoiicikaaiaaGreatPlaceImprovesFx3
import Derived.Test.YtjjcoiicikaaiaaGreatPlaceImprovesGa
import Derived.Test.YtjjcoiicikaaiaaGreatPlaceImprovesVb
section
namespace Go.Proofs

open Go Go.Vx

def Tryz.fx16 : Fx := { n := 57, keep := [0, 1, 2, 3, 4, 5, 10, 33, 35, 36, 37, 38, 42, 49], plans := [] }

theorem Tryz.ok16 : okCode Tryz.fx16 (Tryz.f16.body.getD .skip) = true := by kernel_rfl

def Tryz.fx23 : Fx := { n := 103, keep := [0, 1, 2, 3, 4, 5, 6, 7, 8, 9, 10, 12, 13, 15, 23, 27, 28, 29, 33, 34, 35, 36, 39, 58, 96], plans := [(13, { ex := [], mu := [8], p := .take 0 <| .take 1 <| .take 2 <| .take 3 <| .take 4 <| .take 5 <| .take 6 <| .take 7 <| .eff 8 <| .done }), (15, { ex := [], mu := [8], p := .take 0 <| .take 1 <| .take 2 <| .take 3 <| .take 4 <| .take 5 <| .take 6 <| .take 7 <| .eff 8 <| .done })] }

theorem Tryz.ok23 : okCode Tryz.fx23 (Tryz.f23.body.getD .skip) = true := by kernel_rfl

def Tryz.fx30 : Fx := { n := 81, keep := [0, 1, 2, 4, 5, 7, 8, 13, 29, 34, 35, 36, 37, 43, 47, 48, 49, 50, 79], plans := [] }

theorem Tryz.ok30 : okCode Tryz.fx30 (Tryz.f30.body.getD .skip) = true := by kernel_rfl

def Tryz.fx39 : Fx := { n := 83, keep := [0, 1, 2, 3, 4, 5, 8, 9, 10, 11, 12, 13, 14, 15, 16, 17, 18, 19, 27, 31, 37, 38, 39, 41, 42, 43, 75], plans := [(13, { ex := [2], mu := [], p := .take 0 <| .take 1 <| .take 3 <| .take 4 <| .take 5 <| .take 6 <| .eff 2 <| .take 7 <| .take 8 <| .done })] }

theorem Tryz.ok39 : okCode Tryz.fx39 (Tryz.f39.body.getD .skip) = true := by kernel_rfl

def Tryz.fx47 : Fx := { n := 15, keep := [0, 1, 2, 6], plans := [] }

theorem Tryz.ok47 : okCode Tryz.fx47 (Tryz.f47.body.getD .skip) = true := by kernel_rfl

def Tryz.fx48 : Fx := { n := 10, keep := [0, 1, 2], plans := [] }

theorem Tryz.ok48 : okCode Tryz.fx48 (Tryz.f48.body.getD .skip) = true := by kernel_rfl

def Tryz.fx52 : Fx := { n := 18, keep := [0, 1, 4, 5, 9, 17], plans := [] }

theorem Tryz.ok52 : okCode Tryz.fx52 (Tryz.f52.body.getD .skip) = true := by kernel_rfl

def Tryz.fx57 : Fx := { n := 7, keep := [0, 2], plans := [] }

theorem Tryz.ok57 : okCode Tryz.fx57 (Tryz.f57.body.getD .skip) = true := by kernel_rfl

def Tryz.fx60 : Fx := { n := 117, keep := [0, 1, 2, 3, 4, 5, 6, 7, 8, 10, 11, 15, 20, 28, 49, 50, 51, 52, 69], plans := [(9, { ex := [8, 12, 16], mu := [18], p := .take 0 <| .take 1 <| .take 2 <| .take 3 <| .take 4 <| .take 5 <| .take 6 <| .take 7 <| .take 9 <| .take 10 <| .take 11 <| .take 13 <| .take 14 <| .take 15 <| .fork3 8 12 16 (.fork 12 16 (.eff 16 <| .take 17 <| .eff 18 <| .take 19 <| .done) (.eff 12 <| .take 17 <| .eff 18 <| .take 19 <| .done)) (.fork 8 16 (.eff 16 <| .take 17 <| .eff 18 <| .take 19 <| .done) (.eff 8 <| .take 17 <| .eff 18 <| .take 19 <| .done)) (.fork 8 12 (.eff 12 <| .take 17 <| .eff 18 <| .take 19 <| .done) (.eff 8 <| .take 17 <| .eff 18 <| .take 19 <| .done)) }), (14, { ex := [], mu := [9], p := .take 0 <| .take 1 <| .take 2 <| .take 3 <| .take 4 <| .take 5 <| .take 6 <| .take 7 <| .take 8 <| .eff 9 <| .take 10 <| .done }), (15, { ex := [14, 15], mu := [17], p := .take 0 <| .take 1 <| .take 2 <| .take 3 <| .take 4 <| .take 5 <| .take 6 <| .take 7 <| .take 8 <| .take 9 <| .take 10 <| .take 11 <| .take 12 <| .take 13 <| .eff 14 <| .eff 15 <| .take 16 <| .eff 17 <| .done }), (16, { ex := [15, 16], mu := [18], p := .take 0 <| .take 1 <| .take 2 <| .take 3 <| .take 4 <| .take 5 <| .take 6 <| .take 7 <| .take 8 <| .take 9 <| .take 10 <| .take 11 <| .take 12 <| .take 13 <| .take 14 <| .eff 15 <| .eff 16 <| .take 17 <| .eff 18 <| .done }), (17, { ex := [], mu := [10], p := .take 0 <| .take 1 <| .take 2 <| .take 3 <| .take 4 <| .take 5 <| .take 6 <| .take 7 <| .take 8 <| .take 9 <| .eff 10 <| .done })] }

theorem Tryz.ok60 : okCode Tryz.fx60 (Tryz.f60.body.getD .skip) = true := by kernel_rfl

def Tryz.fx62 : Fx := { n := 8, keep := [0, 1, 2, 3, 4, 5, 6], plans := [] }

theorem Tryz.ok62 : okCode Tryz.fx62 (Tryz.f62.body.getD .skip) = true := by kernel_rfl

def Tryz.fx64 : Fx := { n := 8, keep := [0, 1, 3], plans := [] }

theorem Tryz.ok64 : okCode Tryz.fx64 (Tryz.f64.body.getD .skip) = true := by kernel_rfl

def Tryz.fx89 : Fx := { n := 14, keep := [0, 1, 2, 4], plans := [] }

theorem Tryz.ok89 : okCode Tryz.fx89 (Tryz.f89.body.getD .skip) = true := by kernel_rfl

def Tryz.fx92 : Fx := { n := 48, keep := [0, 1, 2, 6, 7, 9, 18, 30, 31, 32, 33, 38], plans := [] }

theorem Tryz.ok92 : okCode Tryz.fx92 (Tryz.f92.body.getD .skip) = true := by kernel_rfl

def Tryz.fx108 : Fx := { n := 30, keep := [0, 1, 4, 5, 6, 7, 8, 9], plans := [] }

theorem Tryz.ok108 : okCode Tryz.fx108 (Tryz.f108.body.getD .skip) = true := by kernel_rfl

def Tryz.fx109 : Fx := { n := 29, keep := [0, 1, 2, 4, 5, 9, 10, 11, 12, 27], plans := [] }

theorem Tryz.ok109 : okCode Tryz.fx109 (Tryz.f109.body.getD .skip) = true := by kernel_rfl

def Tryz.fx110 : Fx := { n := 65, keep := [0, 1, 2, 6, 7, 9, 15, 27, 28, 29, 30], plans := [(7, { ex := [6], mu := [7, 9], p := .take 0 <| .take 1 <| .take 2 <| .take 3 <| .take 4 <| .take 5 <| .eff 6 <| .eff 7 <| .take 8 <| .eff 9 <| .done }), (11, { ex := [], mu := [9, 14], p := .take 0 <| .take 1 <| .take 2 <| .take 3 <| .take 4 <| .take 5 <| .take 6 <| .take 7 <| .take 8 <| .eff 9 <| .take 10 <| .take 11 <| .take 12 <| .take 13 <| .eff 14 <| .done })] }

theorem Tryz.ok110 : okCode Tryz.fx110 (Tryz.f110.body.getD .skip) = true := by kernel_rfl

def Tryz.fx118 : Fx := { n := 6, keep := [0, 1, 2], plans := [] }

theorem Tryz.ok118 : okCode Tryz.fx118 (Tryz.f118.body.getD .skip) = true := by kernel_rfl

def Tryz.fx128 : Fx := { n := 91, keep := [0, 1, 2, 3, 6, 7, 8, 9, 10, 11, 12, 14, 20, 25, 34, 37, 47, 63], plans := [(7, { ex := [], mu := [5], p := .take 0 <| .take 1 <| .take 2 <| .take 3 <| .take 4 <| .eff 5 <| .take 6 <| .done }), (15, { ex := [], mu := [6], p := .take 0 <| .take 1 <| .take 2 <| .take 3 <| .take 4 <| .take 5 <| .eff 6 <| .take 7 <| .take 8 <| .take 9 <| .take 10 <| .take 11 <| .done }), (19, { ex := [21], mu := [24], p := .take 0 <| .take 1 <| .take 2 <| .take 3 <| .take 4 <| .take 5 <| .take 6 <| .take 7 <| .take 8 <| .take 9 <| .take 10 <| .take 11 <| .take 12 <| .take 13 <| .take 14 <| .take 15 <| .take 16 <| .take 17 <| .take 18 <| .take 19 <| .take 20 <| .eff 21 <| .take 22 <| .take 23 <| .eff 24 <| .done })] }

theorem Tryz.ok128 : okCode Tryz.fx128 (Tryz.f128.body.getD .skip) = true := by kernel_rfl

def Tryz.fx139 : Fx := { n := 67, keep := [0, 1, 2, 3, 6, 7, 8, 12, 13, 19, 25, 31], plans := [(11, { ex := [], mu := [], p := .take 0 <| .take 1 <| .take 2 <| .take 3 <| .take 4 <| .take 5 <| .take 6 <| .take 7 <| .take 8 <| .take 9 <| .take 10 <| .take 11 <| .take 12 <| .take 13 <| .take 14 <| .take 15 <| .take 16 <| .take 17 <| .take 18 <| .take 19 <| .take 20 <| .take 21 <| .take 22 <| .take 23 <| .take 24 <| .take 25 <| .take 26 <| .take 27 <| .take 28 <| .take 29 <| .take 30 <| .take 31 <| .done })] }

theorem Tryz.ok139 : okCode Tryz.fx139 (Tryz.f139.body.getD .skip) = true := by kernel_rfl

def Tryz.fx143 : Fx := { n := 15, keep := [0, 1, 2, 6], plans := [] }

theorem Tryz.ok143 : okCode Tryz.fx143 (Tryz.f143.body.getD .skip) = true := by kernel_rfl

def Tryz.fx149 : Fx := { n := 61, keep := [0, 2, 3, 4, 5, 8, 13, 25, 32, 44], plans := [(6, { ex := [], mu := [], p := .take 0 <| .take 1 <| .take 2 <| .take 3 <| .take 4 <| .take 5 <| .take 6 <| .take 7 <| .take 8 <| .take 9 <| .done }), (11, { ex := [], mu := [], p := .take 0 <| .take 1 <| .take 2 <| .take 3 <| .take 4 <| .take 5 <| .take 6 <| .take 7 <| .take 8 <| .take 9 <| .done })] }

theorem Tryz.ok149 : okCode Tryz.fx149 (Tryz.f149.body.getD .skip) = true := by kernel_rfl

def Tryz.fx152 : Fx := { n := 14, keep := [0, 1, 2, 4], plans := [(1, { ex := [], mu := [9], p := .take 0 <| .take 1 <| .take 2 <| .take 3 <| .take 4 <| .take 5 <| .take 6 <| .take 7 <| .take 8 <| .eff 9 <| .done })] }

theorem Tryz.ok152 : okCode Tryz.fx152 (Tryz.f152.body.getD .skip) = true := by kernel_rfl

def Tryz.fx154 : Fx := { n := 39, keep := [0, 1, 2, 3, 6, 7, 8, 15, 21, 27, 33], plans := [(1, { ex := [6, 7, 2], mu := [5, 8, 9], p := .take 0 <| .take 1 <| .take 3 <| .take 4 <| .fork3 2 6 7 (.fork3 5 6 7 (.fork 6 7 (.eff 7 <| .eff 8 <| .eff 9 <| .done) (.eff 6 <| .eff 8 <| .eff 9 <| .done)) (.fork 5 7 (.eff 7 <| .eff 8 <| .eff 9 <| .done) (.eff 5 <| .eff 8 <| .eff 9 <| .done)) (.fork 5 6 (.eff 6 <| .eff 8 <| .eff 9 <| .done) (.eff 5 <| .eff 8 <| .eff 9 <| .done))) (.fork 2 7 (.fork 5 7 (.eff 7 <| .eff 8 <| .eff 9 <| .done) (.eff 5 <| .eff 8 <| .eff 9 <| .done)) (.eff 2 <| .eff 5 <| .eff 8 <| .eff 9 <| .done)) (.fork 2 6 (.fork 5 6 (.eff 6 <| .eff 8 <| .eff 9 <| .done) (.eff 5 <| .eff 8 <| .eff 9 <| .done)) (.eff 2 <| .eff 5 <| .eff 8 <| .eff 9 <| .done)) })] }

theorem Tryz.ok154 : okCode Tryz.fx154 (Tryz.f154.body.getD .skip) = true := by kernel_rfl

def Tryz.fx158 : Fx := { n := 19, keep := [0, 1, 4, 5, 7, 8, 9, 16], plans := [] }

theorem Tryz.ok158 : okCode Tryz.fx158 (Tryz.f158.body.getD .skip) = true := by kernel_rfl

def Tryz.fx173 : Fx := { n := 19, keep := [0, 1, 4, 5, 7, 8, 9, 16], plans := [] }

theorem Tryz.ok173 : okCode Tryz.fx173 (Tryz.f173.body.getD .skip) = true := by kernel_rfl

def Tryz.fx205 : Fx := { n := 35, keep := [0, 2], plans := [] }

theorem Tryz.ok205 : okCode Tryz.fx205 (Tryz.f205.body.getD .skip) = true := by kernel_rfl

end Go.Proofs
end

section
end

section
set_option linter.unusedVariables false

namespace Go.Proofs

open Go Go.Vx Go.Gm

def parV (p : Par) : List Value := [.int .i64 p.lk, .int .i64 p.lv, .int .i64 p.bias, .int .i64 p.th, .int .i64 p.rk, .int .i64 p.rs, .int .i64 p.fl, .int .i64 p.rest]

theorem within_any (n lo hi : Int) (w : World) :
    Calls Tryz.prog 134 #[.int .i64 n, .int .i64 lo, .int .i64 hi] w fun e w' => ∃ b : Bool, e = .returned (.bool b) ∧ (b = true ↔ lo ≤ n ∧ n ≤ hi) ∧ St w [] [] w' := by
  refine enter (C := Tryz.cx) (F := Tryz.fx134) (args := [_, _, _]) Tryz.func134 rfl rfl rfl Tryz.ok134 (St.start w []) ?_
  repeat' (conv => whnf); first | (refine VSeq.go ?_) | (refine VB.split (fun _ => ?_) (fun _ => ?_)) | (refine VLd.is ?_; refine VLd.mk (.row aT (by rfl)) ?_) | (refine VSt.is ?_; refine VSt.row aT (by rfl) (by first | rfl | assumption) ?_) | (refine VNew.mk fun _ => ?_) | (refine VAr.is ?_; refine oA ?_)
  all_goals (conv => whnf)
  all_goals exact ⟨fun w' hw' => ⟨_, rfl, by simp; omega, hw'⟩⟩

theorem within_net (n lo hi : Int) (w : World) :
    Calls Tryz.prog 90 #[.int .i64 n, .int .i64 lo, .int .i64 hi] w fun e w' => ∃ b : Bool, e = .returned (.bool b) ∧ (b = true ↔ lo ≤ n ∧ n ≤ hi) ∧ St w [] [] w' := by
  refine enter (C := Tryz.cx) (F := Tryz.fx90) (args := [_, _, _]) Tryz.func90 rfl rfl rfl Tryz.ok90 (St.start w []) ?_
  repeat' (conv => whnf); first | (refine VSeq.go ?_) | (refine VB.split (fun _ => ?_) (fun _ => ?_)) | (refine VLd.is ?_; refine VLd.mk (.row aT (by rfl)) ?_) | (refine VSt.is ?_; refine VSt.row aT (by rfl) (by first | rfl | assumption) ?_) | (refine VNew.mk fun _ => ?_) | (refine VAr.is ?_; refine oA ?_)
  all_goals (conv => whnf)
  all_goals exact ⟨fun w' hw' => ⟨_, rfl, by simp; omega, hw'⟩⟩

theorem within_ref (n lo hi : Int) (w : World) :
    Calls Tryz.prog 143 #[.int .i64 n, .int .i64 lo, .int .i64 hi] w fun e w' => ∃ b : Bool, e = .returned (.bool b) ∧ (b = true ↔ lo ≤ n ∧ n ≤ hi) ∧ St w [] [] w' := by
  refine enter (C := Tryz.cx) (F := Tryz.fx143) (args := [_, _, _]) Tryz.func143 rfl rfl rfl Tryz.ok143 (St.start w []) ?_
  repeat' (conv => whnf); first | (refine VSeq.go ?_) | (refine VB.split (fun _ => ?_) (fun _ => ?_)) | (refine VLd.is ?_; refine VLd.mk (.row aT (by rfl)) ?_) | (refine VSt.is ?_; refine VSt.row aT (by rfl) (by first | rfl | assumption) ?_) | (refine VNew.mk fun _ => ?_) | (refine VAr.is ?_; refine oA ?_)
  all_goals (conv => whnf)
  all_goals exact ⟨fun w' hw' => ⟨_, rfl, by simp; omega, hw'⟩⟩

def leakF (k : Int) : Value :=
  if k = 0 then .func (.func 170) #[] #[] else if k = 1 then .func (.func 171) #[] #[] else if k = 2 then .func (.func 172) #[] #[] else .nilFunc

def leakM (k : Int) : Int := if k = 0 then 0 else if k = 1 then 1048576 else if k = 2 then 256 else 0

theorem leaks_any (k : Int) (w : World) :
    Calls Tryz.prog 133 #[.int .i64 k] w fun e w' => ∃ b : Bool, e = .returned (.tuple #[.agg #[.int .i64 (leakM k), leakF k], .bool b]) ∧ (b = true ↔ 0 ≤ k ∧ k ≤ 2) ∧ St w [] [] w' := by
  refine enter (C := Tryz.cx) (F := Tryz.fx133) (args := [_]) Tryz.func133 rfl rfl rfl Tryz.ok133 (St.start w []) ?_
  repeat' (conv => whnf); first | (refine VSeq.go ?_) | (refine VB.split (fun _ => ?_) (fun _ => ?_)) | (refine VLd.is ?_; refine VLd.mk (.row aT (by rfl)) ?_) | (refine VSt.is ?_; refine VSt.row aT (by rfl) (by first | rfl | assumption) ?_) | (refine VNew.mk fun _ => ?_) | (refine VAr.is ?_; refine oA ?_)
  all_goals (conv => whnf)
  · exact ⟨fun w' hw' => ⟨true, by simp [packE, leakM, leakF, *], by simp; omega, hw'.le .nil⟩⟩
  · exact ⟨fun w' hw' => ⟨true, by simp [packE, leakM, leakF, *], by simp; omega, hw'.le .nil⟩⟩
  · exact ⟨fun w' hw' => ⟨true, by simp [packE, leakM, leakF, *], by simp; omega, hw'.le .nil⟩⟩
  · exact ⟨fun w' hw' => ⟨false, by simp [packE, leakM, leakF, *], by simp; omega, hw'.le .nil⟩⟩

theorem leakF_one (k : Int) : (leakF k).oneCell' = true := by
  unfold leakF; split <;> (try split) <;> (try split) <;> rfl

theorem check_any (p : Par) (hp : p.wf) (w : World) :
    Calls Tryz.prog 88 #[.agg (parV p).toArray] w fun e w' => e = .returned (.int .i64 (chk p)) ∧ St w [] [] w' := by
  obtain ⟨h1, h2, h3, h4, h5, h6, h7, h8⟩ := hp
  unfold I64 at *
  have hone : oneAll [.int .i64 (leakM p.lk), leakF p.lk] = true := by have h := leakF_one p.lk; simp only [oneAll, h]; rfl
  refine enter (C := Tryz.cx) (F := Tryz.fx88) (args := [_]) Tryz.func88 rfl rfl rfl Tryz.ok88 (St.start w []) ?_
  have hm0 : p.lk = 0 → leakM p.lk = 0 := by intro h; simp [leakM, h]
  have hm1 : p.lk = 1 → leakM p.lk = 1048576 := by intro h; simp [leakM, h]
  have hm2 : p.lk = 2 → leakM p.lk = 256 := by intro h; simp [leakM, h]
  repeat' (conv => whnf); first | (refine VCall.is ?_; refine VCall.ex (leaks_any _) fun b hb => ?_) | (refine VCall.is ?_; refine VCall.bool (within_any _ _ _) ?_) | (refine VAr.is ?_; refine VAr.any fun _ _ => ?_) | (refine VSeq.go ?_) | (refine VB.split (fun _ => ?_) (fun _ => ?_)) | (refine boolE_split (fun h => ?_) (fun h => ?_) <;> subst h) | (refine VLd.is ?_; refine VLd.mk (.row aT (by rfl)) ?_) | (refine VSt.is ?_; refine VSt.row aT (by rfl) (by first | rfl | assumption) ?_) | (refine VNew.mk fun _ => ?_) | (refine VHs.mk _ (.refl _) ?_)
  all_goals (conv => whnf)
  all_goals refine ⟨fun w' hw' => ⟨?_, hw'.le .nil⟩⟩
  all_goals simp only [true_iff, false_iff, Bool.false_eq_true] at hb
  all_goals first
    | (rw [chk_two (by unfold kindsOk; omega)]; rfl)
    | (rw [chk_three (by unfold kindsOk; omega) (by unfold rangeOk leakOk; omega)]; rfl)
    | (rw [chk_zero (by unfold kindsOk; omega) (by unfold rangeOk leakOk; omega)]; rfl)

end Go.Proofs
end

section
section

set_option linter.unusedVariables false

namespace Go.Proofs

open Go Go.Vx Go.Gm

theorem _root_.Go.Vx.Rd.cast {w0 : World} {M : List Nat} {H : HP} {b off off' s : Nat} {vs : List Value} (h : Rd w0 M H b off s vs) (he : off' = off) : Rd w0 M H b off' s vs := he ▸ h

def synV (s : Syn) : List Value := [.int .i64 s.frm, .int .i64 s.to, .int .i64 s.wt, .int .i64 s.dl]

theorem source_any (N : Net) (hi : 0 ≤ N.inputs ∧ N.inputs ≤ 256) (hl : N.ps.length ≤ 1024) (pn : Option Addr) (cn : Nat) (sv : Value) (k : Int) (w : World) :
    Calls Tryz.prog 89 #[.agg #[.slice pn N.ps.length cn, .int .i64 N.inputs, sv], .int .i64 k] w fun e w' => ∃ b : Bool, e = .returned (.bool b) ∧ (b = true ↔ srcOk N k) ∧ St w [] [] w' := by
  refine enter (C := Tryz.cx) (F := Tryz.fx89) (args := [_, _]) Tryz.func89 rfl rfl rfl Tryz.ok89 (St.start w []) ?_
  repeat' (conv => whnf); first | (refine VCall.is ?_; refine VCall.ex (within_net _ _ _) fun b hb => ?_) | (refine VSeq.go ?_) | (refine VLd.is ?_; refine VLd.mk (.row aT (by rfl)) ?_) | (refine VNew.mk fun _ => ?_) | (refine VAr.is ?_; refine oA ?_)
  all_goals (conv => whnf)
  all_goals exact ⟨fun w' hw' => ⟨_, rfl, by unfold srcOk; rw [hb]; omega, hw'.le .nil⟩⟩

theorem Check_any (N : Net) (hN : N.wf) (pn : Option Addr) (cn bn on : Nat) (qs : Option Addr) (cs bs os : Nat) (w : World) (h1 : Sl w parV 8 N.ps pn N.ps.length bn on) (h2 : Sl w synV 4 N.syns qs N.syns.length bs os) :
    Calls Tryz.prog 30 #[.agg #[.slice pn N.ps.length cn, .int .i64 N.inputs, .slice qs N.syns.length cs]] w fun e w' => e = .returned (.int .i64 (netchk N)) ∧ St w [] [] w' := by
  have hin := hN.inputs
  unfold I64 at hin
  refine enter (C := Tryz.cx) (F := Tryz.fx30) (args := [_]) Tryz.func30 rfl rfl rfl Tryz.ok30 (St.start w []) ?_
  repeat' (conv => whnf); first | (refine VNew.mk fun b1 => ?_) | (refine VSeq.go ?_) | (refine VB.split (fun _ => ?_) (fun _ => ?_)) | (refine VLd.is ?_; refine VLd.mk (.row aT (by rfl)) ?_)
  all_goals (conv => whnf)
  · exact ⟨fun w' hw' => ⟨by rw [netchk_arg (by omega)]; rfl, hw'.le .nil⟩⟩
  · exact ⟨fun w' hw' => ⟨by rw [netchk_many (by omega) (by omega)]; rfl, hw'.le .nil⟩⟩
  · exact ⟨fun w' hw' => ⟨by rw [netchk_many (by omega) (by omega)]; rfl, hw'.le .nil⟩⟩
  · exact ⟨fun w' hw' => ⟨by rw [netchk_many (by omega) (by omega)]; rfl, hw'.le .nil⟩⟩
  · exact ⟨fun w' hw' => ⟨by rw [netchk_range (by omega) (by omega) (by omega)]; rfl, hw'.le .nil⟩⟩
  refine VLoop.mk (α := Nat) (fun i => i ≤ N.ps.length ∧ firstErr N.ps = firstErr (N.ps.drop i))
    (fun i => [(1000000, .tuple #[]), (1, .pointer (some ⟨b1, 0, none⟩)), (34, .slice pn N.ps.length cn), (35, .int .i64 (N.ps.length : Int)), (36, .int .i64 (i : Int))])
    (fun _ => [.row b1 39 [.slice pn N.ps.length cn, .int .i64 N.inputs, .slice qs N.syns.length cs]]) (fun i => N.ps.length - i) 0 ⟨by omega, rfl⟩ aE aH ?_
  rintro i ⟨hi, hf⟩
  rcases Nat.lt_or_ge i N.ps.length with hlt | hge
  · obtain ⟨p, hp⟩ := h1.get hlt
    have hwf := hN.ps p (List.mem_of_getElem? hp)
    repeat' (conv => whnf); first | (refine VIx.is ?_; refine VIx.mk (h1.ptr (by omega)) (by omega) (by omega) ?_) | (refine VLd.is ?_; refine VLd.mk (h1.rd0 (by simp) (fun _ => rfl) hp rfl) ?_) | (refine VCall.is ?_; refine VCall.val (check_any p hwf) ?_) | (refine VSeq.go ?_) | (refine VB.is ?_; refine VB.yes (by omega) fun _ => ?_) | (refine VB.split (fun _ => ?_) (fun _ => ?_)) | (refine VLd.is ?_; refine VLd.mk (.row aT (by rfl)) ?_) | (refine VSt.is ?_; refine VSt.row aT (by rfl) (by first | rfl | assumption) ?_) | (refine VNew.mk fun _ => ?_) | (refine VAr.is ?_; refine oA ?_)
    all_goals (conv => whnf)
    · have := firstErr_err hp ‹_›
      exact ⟨fun w' hw' => ⟨by rw [netchk_par (by omega) (by omega) (by omega) (by rw [hf, this]; assumption), hf, this]; rfl, hw'.le .nil⟩⟩
    · refine VNext.mk (i + 1) ⟨by omega, ?_⟩ (by omega) aE aH
      rw [hf, firstErr_drop hp (by omega)]
  · have hf0 : firstErr N.ps = 0 := by rw [hf, List.drop_eq_nil_of_le hge]; rfl
    repeat' (conv => whnf); first | (refine VSeq.go ?_) | (refine VB.is ?_; refine VB.no (by omega) fun _ => ?_) | (refine VLd.is ?_; refine VLd.mk (.row aT (by rfl)) ?_)
    all_goals (conv => whnf)
    refine VLoop.mk (α := Nat) (fun i => i ≤ N.syns.length ∧ synsOk N N.syns = synsOk N (N.syns.drop i))
      (fun i => [(1000000, .tuple #[]), (1, .pointer (some ⟨b1, 0, none⟩)), (47, .slice qs N.syns.length cs), (48, .int .i64 (N.syns.length : Int)), (49, .int .i64 (i : Int))])
      (fun _ => [.row b1 39 [.slice pn N.ps.length cn, .int .i64 N.inputs, .slice qs N.syns.length cs]]) (fun i => N.syns.length - i) 0 ⟨by omega, rfl⟩ aE aH ?_
    rintro j ⟨hj, hg⟩
    rcases Nat.lt_or_ge j N.syns.length with hlt | hge
    · obtain ⟨s, hs⟩ := h2.get hlt
      have hwf := hN.syns s (List.mem_of_getElem? hs)
      unfold Syn.wf I64 at hwf
      repeat' (conv => whnf); first | (refine VIx.is ?_; refine VIx.mk (h2.ptr (by omega)) (by omega) (by omega) ?_) | (refine VLd.is ?_; refine VLd.mk (h2.rd0 (by simp) (fun _ => rfl) hs rfl) ?_) | (refine VCall.is ?_; refine VCall.bool (source_any N (by omega) (by omega) _ _ _ _) ?_) | (refine VCall.is ?_; refine VCall.bool (within_net _ _ _) ?_) | (refine VSeq.go ?_) | (refine VB.is ?_; refine VB.yes (by omega) fun _ => ?_) | (refine VB.split (fun _ => ?_) (fun _ => ?_)) | (refine VLd.is ?_; refine VLd.mk (.row aT (by rfl)) ?_) | (refine VSt.is ?_; refine VSt.row aT (by rfl) (by first | rfl | assumption) ?_) | (refine VNew.mk fun _ => ?_) | (refine VAr.is ?_; refine oA ?_)
      all_goals (conv => whnf)
      all_goals first
        | exact ⟨fun w' hw' => ⟨by rw [netchk_syn (by omega) (by omega) (by omega) hf0, hg, synsOk_not hs (by simp only [synOk, srcOk] at *; omega)]; rfl, hw'.le .nil⟩⟩
        | (refine VNext.mk (j + 1) ⟨by omega, ?_⟩ (by omega) aE aH
           rw [hg, synsOk_drop hs (by simp only [synOk, srcOk] at *; omega)])
    · repeat' (conv => whnf); first | (refine VSeq.go ?_) | (refine VB.is ?_; refine VB.no (by omega) fun _ => ?_)
      all_goals (conv => whnf)
      exact ⟨fun w' hw' => ⟨by rw [netchk_syn (by omega) (by omega) (by omega) hf0, hg, List.drop_eq_nil_of_le hge]; rfl, hw'.le .nil⟩⟩

end Go.Proofs

end

section

set_option linter.unusedVariables false

namespace Go.Proofs

open Go Go.Vx Go.Gm

def intV (k : Int) : List Value := [.int .i64 k]

end Go.Proofs

end

section

set_option linter.unusedVariables false

namespace Go.Proofs

open Go Go.Vx Go.Gm

theorem clonePar_any (l : List Par) (p : Option Addr) (c b o : Nat) (w : World) (h1 : Sl w parV 8 l p l.length b o) (hb : l.length ≤ 65536) :
    Calls Tryz.prog 53 #[.slice p l.length c] w fun e w' => ∃ x : Option Addr × Nat, e = .returned (.slice x.1 l.length x.2) ∧ (0 < l.length → ∃ g, x.1 = some ⟨g, 0, none⟩) ∧ St w [] [.vec x.1 l.length x.2 74 8 (flat parV l)] w' := by
  have hs := h1.src (w0 := w) (M := []) (H := []) (by simp) (fun _ => rfl)
  clear hs
  rcases h1.cases with ⟨a, h2⟩ | ⟨h2, h3⟩
  · subst h2
    refine enter (C := Tryz.cx) (F := Tryz.fx53) (args := [_]) Tryz.func53 rfl rfl rfl Tryz.ok53 (St.start w []) ?_
    repeat' (conv => whnf); first | (refine VAp.is ?_; refine VAp.own aT (h1.src (by simp) (fun _ => rfl)) (flat_one_cell (by simp [parV, Value.oneCell'])) ((by (try dsimp only); omega)) (by simp only [maxLen]; omega) fun p' cap' hp' => ?_) | (refine VSeq.go ?_) | (refine VNew.mk fun _ => ?_)
    all_goals (conv => whnf)
    refine ⟨fun w' hw' => ⟨(p', cap'), by simp [packE], fun h => hp' (by omega), ?_⟩⟩
    rw [Nat.zero_add] at hw'
    exact hw'.le aH
  · subst h2
    have hl : l = [] := List.eq_nil_of_length_eq_zero h3
    subst hl
    refine enter (C := Tryz.cx) (F := Tryz.fx53) (args := [_]) Tryz.func53 rfl rfl rfl Tryz.ok53 (St.start w []) ?_
    repeat' (conv => whnf); first | (refine VSeq.go ?_) | (refine VB.is ?_; refine VB.no (by omega) fun _ => ?_) | (refine VLd.is ?_; refine VLd.mk (.row aT (by rfl)) ?_)
    all_goals (conv => whnf)
    exact ⟨fun w' hw' => ⟨(none, 0), rfl, fun h => absurd h (by simp), hw'.le (.nilv .nil)⟩⟩

theorem cloneSyn_any (l : List Syn) (p : Option Addr) (c b o : Nat) (w : World) (h1 : Sl w synV 4 l p l.length b o) (hb : l.length ≤ 65536) :
    Calls Tryz.prog 54 #[.slice p l.length c] w fun e w' => ∃ x : Option Addr × Nat, e = .returned (.slice x.1 l.length x.2) ∧ (0 < l.length → ∃ g, x.1 = some ⟨g, 0, none⟩) ∧ St w [] [.vec x.1 l.length x.2 70 4 (flat synV l)] w' := by
  have hs := h1.src (w0 := w) (M := []) (H := []) (by simp) (fun _ => rfl)
  clear hs
  rcases h1.cases with ⟨a, h2⟩ | ⟨h2, h3⟩
  · subst h2
    refine enter (C := Tryz.cx) (F := Tryz.fx54) (args := [_]) Tryz.func54 rfl rfl rfl Tryz.ok54 (St.start w []) ?_
    repeat' (conv => whnf); first | (refine VAp.is ?_; refine VAp.own aT (h1.src (by simp) (fun _ => rfl)) (flat_one_cell (by simp [synV, Value.oneCell'])) ((by (try dsimp only); omega)) (by simp only [maxLen]; omega) fun p' cap' hp' => ?_) | (refine VSeq.go ?_) | (refine VB.is ?_; refine VB.yes (by omega) fun _ => ?_) | (refine VB.is ?_; refine VB.no (by omega) fun _ => ?_) | (refine VB.split (fun _ => ?_) (fun _ => ?_)) | (refine boolE_split (fun h => ?_) (fun h => ?_) <;> subst h) | (refine VLd.is ?_; refine VLd.mk (.row aT (by rfl)) ?_) | (refine VSt.is ?_; refine VSt.row aT (by rfl) (by first | rfl | assumption) ?_) | (refine VNew.mk fun _ => ?_) | (refine VAr.is ?_; refine oA ?_) | (refine VIx.is ?_; refine VIx.mk rfl (by omega) (by omega) ?_) | (refine VKeep.is ?_; refine VKeep.mk aH ?_) | (refine VHs.mk _ (.refl _) ?_) | (refine VQ.is ?_; refine oQ ?_) | (refine VM.is ?_; refine oM ?_) | (refine And.intro ?_ ?_)
    all_goals (conv => whnf)
    refine ⟨fun w' hw' => ⟨(p', cap'), by simp [packE], fun h => hp' (by omega), ?_⟩⟩
    rw [Nat.zero_add] at hw'
    exact hw'.le aH
  · subst h2
    have hl : l = [] := List.eq_nil_of_length_eq_zero h3
    subst hl
    refine enter (C := Tryz.cx) (F := Tryz.fx54) (args := [_]) Tryz.func54 rfl rfl rfl Tryz.ok54 (St.start w []) ?_
    repeat' (conv => whnf); first | (refine VSeq.go ?_) | (refine VB.is ?_; refine VB.no (by omega) fun _ => ?_) | (refine VLd.is ?_; refine VLd.mk (.row aT (by rfl)) ?_)
    all_goals (conv => whnf)
    exact ⟨fun w' hw' => ⟨(none, 0), rfl, fun h => absurd h (by simp), hw'.le (.nilv .nil)⟩⟩

theorem cloneInt_any (l : List Int) (p : Option Addr) (c b o : Nat) (w : World) (h1 : Sl w intV 1 l p l.length b o) (hb : l.length ≤ 65536) :
    Calls Tryz.prog 69 #[.slice p l.length c] w fun e w' => ∃ x : Option Addr × Nat, e = .returned (.slice x.1 l.length x.2) ∧ (0 < l.length → ∃ g, x.1 = some ⟨g, 0, none⟩) ∧ St w [] [.vec x.1 l.length x.2 3 1 (flat intV l)] w' := by
  have hs := h1.src (w0 := w) (M := []) (H := []) (by simp) (fun _ => rfl)
  clear hs
  rcases h1.cases with ⟨a, h2⟩ | ⟨h2, h3⟩
  · subst h2
    refine enter (C := Tryz.cx) (F := Tryz.fx69) (args := [_]) Tryz.func69 rfl rfl rfl Tryz.ok69 (St.start w []) ?_
    repeat' (conv => whnf); first | (refine VAp.is ?_; refine VAp.own aT (h1.src (by simp) (fun _ => rfl)) (flat_one_cell (by simp [intV, Value.oneCell'])) ((by (try dsimp only); omega)) (by simp only [maxLen]; omega) fun p' cap' hp' => ?_) | (refine VSeq.go ?_) | (refine VNew.mk fun _ => ?_)
    all_goals (conv => whnf)
    refine ⟨fun w' hw' => ⟨(p', cap'), by simp [packE], fun h => hp' (by omega), ?_⟩⟩
    rw [Nat.zero_add] at hw'
    exact hw'.le aH
  · subst h2
    have hl : l = [] := List.eq_nil_of_length_eq_zero h3
    subst hl
    refine enter (C := Tryz.cx) (F := Tryz.fx69) (args := [_]) Tryz.func69 rfl rfl rfl Tryz.ok69 (St.start w []) ?_
    repeat' (conv => whnf); first | (refine VSeq.go ?_) | (refine VB.is ?_; refine VB.no (by omega) fun _ => ?_) | (refine VLd.is ?_; refine VLd.mk (.row aT (by rfl)) ?_)
    all_goals (conv => whnf)
    exact ⟨fun w' hw' => ⟨(none, 0), rfl, fun h => absurd h (by simp), hw'.le (.nilv .nil)⟩⟩

end Go.Proofs

end

section

set_option linter.unusedVariables false

set_option linter.unusedSimpArgs false

set_option linter.unnecessarySimpa false

namespace Go.Proofs

open Go Go.Vx Go.Gm

structure WRow where
  key : Int
  p : Option Addr
  cap : Nat
  l : List Syn

def wrowV (r : WRow) : Value := .slice r.p r.l.length r.cap

def wrowM (r : WRow) : Int × Value := (r.key, wrowV r)

def wrowK (r : WRow) : Int × List Syn := (r.key, r.l)

structure WOk (R : List WRow) : Prop where
  pos : ∀ r ∈ R, 0 < r.l.length
  ptr : ∀ r ∈ R, ∃ g, r.p = some ⟨g, 0, none⟩

end Go.Proofs

end

section

set_option linter.unusedVariables false

set_option linter.unusedSimpArgs false

set_option linter.unnecessarySimpa false

namespace Go.Proofs

open Go Go.Vx Go.Gm

structure DRow where
  g : Nat
  cap : Nat
  l : List Int

def drowV (d : DRow) : Value := .slice (some ⟨d.g, 0, none⟩) d.l.length d.cap

structure SimM where
  b : Nat
  N : Net
  pb : Nat
  pc : Nat
  sv : Value
  bw : Nat
  R : List WRow
  tick : Nat
  sb : Nat
  sc : Nat
  sts : List Sta
  D : List DRow

theorem _root_.Go.Vx.Cells.row {w0 w : World} {M : List Nat} {H r : HP} {b e : Nat} {cs : List Value} {u : Ent → HP} (hs : St w0 M H w) (hat : At H (.row b e cs) u r) : Cells w b 0 cs := by
  have h : w.heap[b]? = some (.cells cs.toArray e (0, 0)) := hs.own _ hat.mem
  intro j v hj
  simpa [World.cell?, h] using hj

def nilS : Value := .slice none 0 0

structure SimOk (x : SimM) : Prop where
  net : NetOk x.N
  rows : WOk x.R
  wired : x.R.map wrowK = wire x.N.syns
  sts : x.sts.length = x.N.ps.length
  due : x.D.length = 16
  cells : ∀ d ∈ x.D, d.l.length = x.N.ps.length
  sv : x.sv.oneCell' = true

end Go.Proofs

end
end
