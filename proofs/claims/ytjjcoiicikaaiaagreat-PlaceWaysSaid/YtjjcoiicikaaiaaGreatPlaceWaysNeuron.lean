import Derived.Test.YtjjcoiicikaaiaaGreatPlaceWaysLay
import Derived.Test.YtjjcoiicikaaiaaGreatPlaceWaysFx1
import Derived.Test.YtjjcoiicikaaiaaGreatPlaceWaysFx3
import Derived.Test.YtjjcoiicikaaiaaGreatPlaceWaysGa
section
namespace Go.Proofs

open Go Go.Vx

def Tryz.fx16 : Fx := { n := 57, keep := [0, 1, 2, 3, 4, 5, 10, 33, 35, 36, 37, 38, 42, 49], plans := [] }

theorem Tryz.ok16 : okCode Tryz.fx16 (Tryz.f16.body.getD .skip) = true := by kernel_rfl

def Tryz.fx23 : Fx := { n := 103, keep := [0, 1, 2, 3, 4, 5, 6, 7, 8, 9, 10, 12, 13, 15, 23, 27, 28, 29, 33, 34, 35, 36, 39, 58, 96], plans := [(13, { ex := [], mu := [8], p := .take 0 <| .take 1 <| .take 2 <| .take 3 <| .take 4 <| .take 5 <| .take 6 <| .take 7 <| .eff 8 <| .done }), (15, { ex := [], mu := [8], p := .take 0 <| .take 1 <| .take 2 <| .take 3 <| .take 4 <| .take 5 <| .take 6 <| .take 7 <| .eff 8 <| .done })] }

theorem Tryz.ok23 : okCode Tryz.fx23 (Tryz.f23.body.getD .skip) = true := by kernel_rfl

def Tryz.fx30 : Fx := { n := 81, keep := [0, 1, 2, 4, 5, 7, 8, 13, 29, 34, 35, 36, 37, 43, 47, 48, 49, 50, 79], plans := [] }

theorem Tryz.ok30 : okCode Tryz.fx30 (Tryz.f30.body.getD .skip) = true := by kernel_rfl

def Tryz.fx32 : Fx := { n := 14, keep := [0, 1, 2, 4, 6], plans := [] }

theorem Tryz.ok32 : okCode Tryz.fx32 (Tryz.f32.body.getD .skip) = true := by kernel_rfl

def Tryz.fx47 : Fx := { n := 15, keep := [0, 1, 2, 6], plans := [] }

theorem Tryz.ok47 : okCode Tryz.fx47 (Tryz.f47.body.getD .skip) = true := by kernel_rfl

def Tryz.fx48 : Fx := { n := 10, keep := [0, 1, 2], plans := [] }

theorem Tryz.ok48 : okCode Tryz.fx48 (Tryz.f48.body.getD .skip) = true := by kernel_rfl

def Tryz.fx57 : Fx := { n := 7, keep := [0, 2], plans := [] }

theorem Tryz.ok57 : okCode Tryz.fx57 (Tryz.f57.body.getD .skip) = true := by kernel_rfl

def Tryz.fx60 : Fx := { n := 117, keep := [0, 1, 2, 3, 4, 5, 6, 7, 8, 10, 11, 15, 20, 28, 49, 50, 51, 52, 69], plans := [(9, { ex := [8, 12, 16], mu := [18], p := .take 0 <| .take 1 <| .take 2 <| .take 3 <| .take 4 <| .take 5 <| .take 6 <| .take 7 <| .take 9 <| .take 10 <| .take 11 <| .take 13 <| .take 14 <| .take 15 <| .fork3 8 12 16 (.fork 12 16 (.eff 16 <| .take 17 <| .eff 18 <| .take 19 <| .done) (.eff 12 <| .take 17 <| .eff 18 <| .take 19 <| .done)) (.fork 8 16 (.eff 16 <| .take 17 <| .eff 18 <| .take 19 <| .done) (.eff 8 <| .take 17 <| .eff 18 <| .take 19 <| .done)) (.fork 8 12 (.eff 12 <| .take 17 <| .eff 18 <| .take 19 <| .done) (.eff 8 <| .take 17 <| .eff 18 <| .take 19 <| .done)) }), (14, { ex := [], mu := [9], p := .take 0 <| .take 1 <| .take 2 <| .take 3 <| .take 4 <| .take 5 <| .take 6 <| .take 7 <| .take 8 <| .eff 9 <| .take 10 <| .done }), (15, { ex := [14, 15], mu := [17], p := .take 0 <| .take 1 <| .take 2 <| .take 3 <| .take 4 <| .take 5 <| .take 6 <| .take 7 <| .take 8 <| .take 9 <| .take 10 <| .take 11 <| .take 12 <| .take 13 <| .eff 14 <| .eff 15 <| .take 16 <| .eff 17 <| .done }), (16, { ex := [15, 16], mu := [18], p := .take 0 <| .take 1 <| .take 2 <| .take 3 <| .take 4 <| .take 5 <| .take 6 <| .take 7 <| .take 8 <| .take 9 <| .take 10 <| .take 11 <| .take 12 <| .take 13 <| .take 14 <| .eff 15 <| .eff 16 <| .take 17 <| .eff 18 <| .done }), (17, { ex := [], mu := [10], p := .take 0 <| .take 1 <| .take 2 <| .take 3 <| .take 4 <| .take 5 <| .take 6 <| .take 7 <| .take 8 <| .take 9 <| .eff 10 <| .done })] }

theorem Tryz.ok60 : okCode Tryz.fx60 (Tryz.f60.body.getD .skip) = true := by kernel_rfl

def Tryz.fx62 : Fx := { n := 8, keep := [0, 1, 2, 3, 4, 5, 6], plans := [] }

theorem Tryz.ok62 : okCode Tryz.fx62 (Tryz.f62.body.getD .skip) = true := by kernel_rfl

def Tryz.fx64 : Fx := { n := 8, keep := [0, 1, 3], plans := [] }

theorem Tryz.ok64 : okCode Tryz.fx64 (Tryz.f64.body.getD .skip) = true := by kernel_rfl

def Tryz.fx89 : Fx := { n := 14, keep := [0, 1, 2, 4], plans := [] }

theorem Tryz.ok89 : okCode Tryz.fx89 (Tryz.f89.body.getD .skip) = true := by kernel_rfl

def Tryz.fx101 : Fx := { n := 72, keep := [0, 1, 2, 3, 8, 9, 10, 22, 33, 37], plans := [(8, { ex := [6], mu := [9], p := .take 0 <| .take 1 <| .take 2 <| .take 3 <| .take 4 <| .take 5 <| .take 8 <| .eff 6 <| .take 7 <| .eff 9 <| .done })] }

theorem Tryz.ok101 : okCode Tryz.fx101 (Tryz.f101.body.getD .skip) = true := by kernel_rfl

def Tryz.fx108 : Fx := { n := 30, keep := [0, 1, 4, 5, 6, 7, 8, 9], plans := [] }

theorem Tryz.ok108 : okCode Tryz.fx108 (Tryz.f108.body.getD .skip) = true := by kernel_rfl

def Tryz.fx109 : Fx := { n := 29, keep := [0, 1, 2, 4, 5, 9, 10, 11, 12, 27], plans := [] }

theorem Tryz.ok109 : okCode Tryz.fx109 (Tryz.f109.body.getD .skip) = true := by kernel_rfl

def Tryz.fx110 : Fx := { n := 65, keep := [0, 1, 2, 6, 7, 9, 15, 27, 28, 29, 30], plans := [(7, { ex := [6], mu := [7, 9], p := .take 0 <| .take 1 <| .take 2 <| .take 3 <| .take 4 <| .take 5 <| .eff 6 <| .eff 7 <| .take 8 <| .eff 9 <| .done }), (11, { ex := [], mu := [9, 14], p := .take 0 <| .take 1 <| .take 2 <| .take 3 <| .take 4 <| .take 5 <| .take 6 <| .take 7 <| .take 8 <| .eff 9 <| .take 10 <| .take 11 <| .take 12 <| .take 13 <| .eff 14 <| .done })] }

theorem Tryz.ok110 : okCode Tryz.fx110 (Tryz.f110.body.getD .skip) = true := by kernel_rfl

def Tryz.fx118 : Fx := { n := 6, keep := [0, 1, 2], plans := [] }

theorem Tryz.ok118 : okCode Tryz.fx118 (Tryz.f118.body.getD .skip) = true := by kernel_rfl

def Tryz.fx139 : Fx := { n := 67, keep := [0, 1, 2, 3, 6, 7, 8, 12, 13, 19, 25, 31], plans := [(11, { ex := [], mu := [], p := .take 0 <| .take 1 <| .take 2 <| .take 3 <| .take 4 <| .take 5 <| .take 6 <| .take 7 <| .take 8 <| .take 9 <| .take 10 <| .take 11 <| .take 12 <| .take 13 <| .take 14 <| .take 15 <| .take 16 <| .take 17 <| .take 18 <| .take 19 <| .take 20 <| .take 21 <| .take 22 <| .take 23 <| .take 24 <| .take 25 <| .take 26 <| .take 27 <| .take 28 <| .take 29 <| .take 30 <| .take 31 <| .done })] }

theorem Tryz.ok139 : okCode Tryz.fx139 (Tryz.f139.body.getD .skip) = true := by kernel_rfl

def Tryz.fx140 : Fx := { n := 14, keep := [0, 1], plans := [] }

theorem Tryz.ok140 : okCode Tryz.fx140 (Tryz.f140.body.getD .skip) = true := by kernel_rfl

def Tryz.fx142 : Fx := { n := 9, keep := [0, 2, 4], plans := [] }

theorem Tryz.ok142 : okCode Tryz.fx142 (Tryz.f142.body.getD .skip) = true := by kernel_rfl

def Tryz.fx149 : Fx := { n := 61, keep := [0, 2, 3, 4, 5, 8, 13, 25, 32, 44], plans := [(6, { ex := [], mu := [], p := .take 0 <| .take 1 <| .take 2 <| .take 3 <| .take 4 <| .take 5 <| .take 6 <| .take 7 <| .take 8 <| .take 9 <| .done }), (11, { ex := [], mu := [], p := .take 0 <| .take 1 <| .take 2 <| .take 3 <| .take 4 <| .take 5 <| .take 6 <| .take 7 <| .take 8 <| .take 9 <| .done })] }

theorem Tryz.ok149 : okCode Tryz.fx149 (Tryz.f149.body.getD .skip) = true := by kernel_rfl

def Tryz.fx152 : Fx := { n := 14, keep := [0, 1, 2, 4], plans := [(1, { ex := [], mu := [9], p := .take 0 <| .take 1 <| .take 2 <| .take 3 <| .take 4 <| .take 5 <| .take 6 <| .take 7 <| .take 8 <| .eff 9 <| .done })] }

theorem Tryz.ok152 : okCode Tryz.fx152 (Tryz.f152.body.getD .skip) = true := by kernel_rfl

def Tryz.fx154 : Fx := { n := 39, keep := [0, 1, 2, 3, 6, 7, 8, 15, 21, 27, 33], plans := [(1, { ex := [6, 7, 2], mu := [5, 8, 9], p := .take 0 <| .take 1 <| .take 3 <| .take 4 <| .fork3 2 6 7 (.fork3 5 6 7 (.fork 6 7 (.eff 7 <| .eff 8 <| .eff 9 <| .done) (.eff 6 <| .eff 8 <| .eff 9 <| .done)) (.fork 5 7 (.eff 7 <| .eff 8 <| .eff 9 <| .done) (.eff 5 <| .eff 8 <| .eff 9 <| .done)) (.fork 5 6 (.eff 6 <| .eff 8 <| .eff 9 <| .done) (.eff 5 <| .eff 8 <| .eff 9 <| .done))) (.fork 2 7 (.fork 5 7 (.eff 7 <| .eff 8 <| .eff 9 <| .done) (.eff 5 <| .eff 8 <| .eff 9 <| .done)) (.eff 2 <| .eff 5 <| .eff 8 <| .eff 9 <| .done)) (.fork 2 6 (.fork 5 6 (.eff 6 <| .eff 8 <| .eff 9 <| .done) (.eff 5 <| .eff 8 <| .eff 9 <| .done)) (.eff 2 <| .eff 5 <| .eff 8 <| .eff 9 <| .done)) })] }

theorem Tryz.ok154 : okCode Tryz.fx154 (Tryz.f154.body.getD .skip) = true := by kernel_rfl

def Tryz.fx158 : Fx := { n := 19, keep := [0, 1, 4, 5, 7, 8, 9, 16], plans := [] }

theorem Tryz.ok158 : okCode Tryz.fx158 (Tryz.f158.body.getD .skip) = true := by kernel_rfl

def Tryz.fx173 : Fx := { n := 19, keep := [0, 1, 4, 5, 7, 8, 9, 16], plans := [] }

theorem Tryz.ok173 : okCode Tryz.fx173 (Tryz.f173.body.getD .skip) = true := by kernel_rfl

def Tryz.fx205 : Fx := { n := 35, keep := [0, 2], plans := [] }

theorem Tryz.ok205 : okCode Tryz.fx205 (Tryz.f205.body.getD .skip) = true := by kernel_rfl

end Go.Proofs
end

section
end

section
set_option linter.unusedVariables false

namespace Go.Proofs

open Go Go.Vx Go.Gm

def parV (p : Par) : List Value := [.int .i64 p.lk, .int .i64 p.lv, .int .i64 p.bias, .int .i64 p.th, .int .i64 p.rk, .int .i64 p.rs, .int .i64 p.fl, .int .i64 p.rest]

theorem within_any (n lo hi : Int) (w : World) :
  Calls Tryz.prog 134 #[.int .i64 n, .int .i64 lo, .int .i64 hi] w fun e w' => ∃ b : Bool, e = .returned (.bool b) ∧ (b = true ↔ lo ≤ n ∧ n ≤ hi) ∧ St w [] [] w' := by
 refine enter (C := Tryz.cx) (F := Tryz.fx134) (args := [_, _, _]) Tryz.func134 rfl rfl rfl Tryz.ok134 (St.start w []) ?_
 repeat' (conv => whnf); first | (refine VSeq.go ?_) | (refine VB.split (fun _ => ?_) (fun _ => ?_)) | (refine VLd.is ?_; refine VLd.mk (.row aT (by rfl)) ?_) | (refine VSt.is ?_; refine VSt.row aT (by rfl) (by first | rfl | assumption) ?_) | (refine VNew.mk fun _ => ?_) | (refine VAr.is ?_; refine oA ?_)
 all_goals (conv => whnf)
 all_goals exact ⟨fun w' hw' => ⟨_, rfl, by simp; omega, hw'⟩⟩

theorem within_net (n lo hi : Int) (w : World) :
  Calls Tryz.prog 90 #[.int .i64 n, .int .i64 lo, .int .i64 hi] w fun e w' => ∃ b : Bool, e = .returned (.bool b) ∧ (b = true ↔ lo ≤ n ∧ n ≤ hi) ∧ St w [] [] w' := by
 refine enter (C := Tryz.cx) (F := Tryz.fx90) (args := [_, _, _]) Tryz.func90 rfl rfl rfl Tryz.ok90 (St.start w []) ?_
 repeat' (conv => whnf); first | (refine VSeq.go ?_) | (refine VB.split (fun _ => ?_) (fun _ => ?_)) | (refine VLd.is ?_; refine VLd.mk (.row aT (by rfl)) ?_) | (refine VSt.is ?_; refine VSt.row aT (by rfl) (by first | rfl | assumption) ?_) | (refine VNew.mk fun _ => ?_) | (refine VAr.is ?_; refine oA ?_)
 all_goals (conv => whnf)
 all_goals exact ⟨fun w' hw' => ⟨_, rfl, by simp; omega, hw'⟩⟩

def leakF (k : Int) : Value :=
 if k = 0 then .func (.func 170) #[] #[] else if k = 1 then .func (.func 171) #[] #[] else if k = 2 then .func (.func 172) #[] #[] else .nilFunc

def leakM (k : Int) : Int := if k = 0 then 0 else if k = 1 then 1048576 else if k = 2 then 256 else 0

theorem leaks_any (k : Int) (w : World) :
  Calls Tryz.prog 133 #[.int .i64 k] w fun e w' => ∃ b : Bool, e = .returned (.tuple #[.agg #[.int .i64 (leakM k), leakF k], .bool b]) ∧ (b = true ↔ 0 ≤ k ∧ k ≤ 2) ∧ St w [] [] w' := by
 refine enter (C := Tryz.cx) (F := Tryz.fx133) (args := [_]) Tryz.func133 rfl rfl rfl Tryz.ok133 (St.start w []) ?_
 repeat' (conv => whnf); first | (refine VSeq.go ?_) | (refine VB.split (fun _ => ?_) (fun _ => ?_)) | (refine VLd.is ?_; refine VLd.mk (.row aT (by rfl)) ?_) | (refine VSt.is ?_; refine VSt.row aT (by rfl) (by first | rfl | assumption) ?_) | (refine VNew.mk fun _ => ?_) | (refine VAr.is ?_; refine oA ?_)
 all_goals (conv => whnf)
 ·exact ⟨fun w' hw' => ⟨true, by simp [packE, leakM, leakF, *], by simp; omega, hw'.le .nil⟩⟩
 ·exact ⟨fun w' hw' => ⟨true, by simp [packE, leakM, leakF, *], by simp; omega, hw'.le .nil⟩⟩
 ·exact ⟨fun w' hw' => ⟨true, by simp [packE, leakM, leakF, *], by simp; omega, hw'.le .nil⟩⟩
 ·exact ⟨fun w' hw' => ⟨false, by simp [packE, leakM, leakF, *], by simp; omega, hw'.le .nil⟩⟩

theorem leakF_one (k : Int) : (leakF k).oneCell' = true := by
 unfold leakF; split <;> (try split) <;> (try split) <;> rfl

theorem check_any (p : Par) (hp : p.wf) (w : World) :
  Calls Tryz.prog 88 #[.agg (parV p).toArray] w fun e w' => e = .returned (.int .i64 (chk p)) ∧ St w [] [] w' := by
 obtain ⟨h1, h2, h3, h4, h5, h6, h7, h8⟩ := hp
 unfold I64 at *
 have hone : oneAll [.int .i64 (leakM p.lk), leakF p.lk] = true := by have h := leakF_one p.lk; simp only [oneAll, h]; rfl
 refine enter (C := Tryz.cx) (F := Tryz.fx88) (args := [_]) Tryz.func88 rfl rfl rfl Tryz.ok88 (St.start w []) ?_
 have hm0 : p.lk = 0 → leakM p.lk = 0 := by intro h; simp [leakM, h]
 have hm1 : p.lk = 1 → leakM p.lk = 1048576 := by intro h; simp [leakM, h]
 have hm2 : p.lk = 2 → leakM p.lk = 256 := by intro h; simp [leakM, h]
 repeat' (conv => whnf); first | (refine VCall.is ?_; refine VCall.ex (leaks_any _) fun b hb => ?_) | (refine VCall.is ?_; refine VCall.bool (within_any _ _ _) ?_) | (refine VAr.is ?_; refine VAr.any fun _ _ => ?_) | (refine VSeq.go ?_) | (refine VB.split (fun _ => ?_) (fun _ => ?_)) | (refine boolE_split (fun h => ?_) (fun h => ?_) <;> subst h) | (refine VLd.is ?_; refine VLd.mk (.row aT (by rfl)) ?_) | (refine VSt.is ?_; refine VSt.row aT (by rfl) (by first | rfl | assumption) ?_) | (refine VNew.mk fun _ => ?_) | (refine VHs.mk _ (.refl _) ?_)
 all_goals (conv => whnf)
 all_goals refine ⟨fun w' hw' => ⟨?_, hw'.le .nil⟩⟩
 all_goals simp only [true_iff, false_iff, Bool.false_eq_true] at hb
 all_goals first
  | (rw [chk_two (by unfold kindsOk; omega)]; rfl)
  | (rw [chk_three (by unfold kindsOk; omega) (by unfold rangeOk leakOk; omega)]; rfl)
  | (rw [chk_zero (by unfold kindsOk; omega) (by unfold rangeOk leakOk; omega)]; rfl)

end Go.Proofs
end
