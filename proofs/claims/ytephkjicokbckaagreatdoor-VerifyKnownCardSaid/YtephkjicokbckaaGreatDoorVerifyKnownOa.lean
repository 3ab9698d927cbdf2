import Derived.Test.YtephkjicokbckaaGreatDoorVerifyKnownSu
import Derived.Test.YtephkjicokbckaaGreatDoorVerifyKnownHc
import Derived.WalkKit
import Derived.Sort.Grow
import Derived.KernelRfl
import Derived.RegionTactic
import Derived.Deep.QuietTactic
import Derived.BigQuiet
import Derived.StillTailTactics
import Derived.Test.YtephkjicokbckaaGreatDoorVerifyKnownNa
import Derived.Shelf.SlSortCmp.NoneTotal
section
set_option linter.unusedVariables false

set_option linter.unusedSimpArgs false

namespace Go.Proofs

open Go Go.RowKit Go.Lib Go.Sort Go.Vx Go.Gm

def cmpI (x y : Int) : Int := if x < y then -1 else if y < x then 1 else 0

set_option maxHeartbeats 1000000 in
theorem isNaN_int_k (x : Int) (w : World) : Calls Tryz.prog 185 #[.int .i64 x] w fun e w' => e = .returned (.bool false) ∧ w' = w := by
  go_enter Tryz.func185, Tryz.ntmps185
  go_wp2
  go_ret
  exact ⟨by simp, rfl⟩

set_option maxHeartbeats 1000000 in
theorem compare_int_k (x y : Int) (w : World) : Calls Tryz.prog 162 #[.int .i64 x, .int .i64 y] w fun e w' => e = .returned (.int .i64 (cmpI x y)) ∧ w' = w := by
  go_enter Tryz.func162, Tryz.ntmps162
  go_wp2_with (go_at_call 185; refine (isNaN_int_k _ _).mono ?_; rintro e w' ⟨rfl, hw⟩; rw [hw])
  all_goals (go_ret; refine ⟨?_, rfl⟩; unfold cmpI; (repeat' split) <;> first | rfl | (exfalso; omega))

set_option maxHeartbeats 1000000 in
theorem or_int_k (blk : Nat) (a b : Int) (W : World) (h0 : W.cell? ⟨blk, 0, none⟩ = some (.int .i64 a)) (h1 : W.cell? ⟨blk, 1, none⟩ = some (.int .i64 b)) : Calls Tryz.prog 161 #[.slice (some ⟨blk, 0, none⟩) 2 2] W fun e w' => e = .returned (.int .i64 (if a = 0 then b else a)) ∧ w' = W := by
  go_enter Tryz.func161, Tryz.ntmps161
  go_wp2
  refine wp_loop_rounds 3 ?_
  rw [rounds_succ]
  by_cases ha : a = 0
  · subst ha
    go_wp2
    rw [rounds_succ]
    go_wp2
    all_goals first
      | (go_ret; exact ⟨by simp, rfl⟩)
      | (rw [rounds_succ]; go_wp2; go_ret; refine ⟨?_, rfl⟩; simp_all; done)
      | trace_state
  · have hb : (a != 0) = true := by simp [ha]
    go_wp2
    all_goals first
      | (go_ret; exact ⟨by simp [ha], rfl⟩)
      | (exfalso; simp_all; done)
      | trace_state

set_option maxRecDepth 100000 in
set_option maxHeartbeats 4000000 in
theorem cmpEvt_k (x y : Evt) (W : World) : Calls Tryz.prog 160 #[.agg (evtV x).toArray, .agg (evtV y).toArray] W fun e w' => e = .returned (.int .i64 (if cmpI x.tick y.tick = 0 then cmpI x.id y.id else cmpI x.tick y.tick)) ∧ ∃ q os', w' = Go.Sort.grow (W.drewN q) os' := by
  have h1 := fun W' => compare_int_k x.tick y.tick W'
  have h2 := fun W' => compare_int_k x.id y.id W'
  unfold evtV
  generalize cmpI x.tick y.tick = a at h1 ⊢
  generalize cmpI x.id y.id = b at h2 ⊢
  go_enter Tryz.func160, Tryz.ntmps160
  go_wp2
  have mixed : Tryz.prog.follows .mixedOrders = true := by kernel_rfl
  obtain ⟨W1, hW1⟩ : ∃ W1, (W.alloc (Obj.cells #[.int .i64 x.tick, .int .i64 x.id] 64)).alloc (Obj.cells #[.int .i64 y.tick, .int .i64 y.id] 64) = W1 := ⟨_, rfl⟩
  have hgr : W1 = Go.Sort.grow W #[Obj.cells #[.int .i64 x.tick, .int .i64 x.id] 64, Obj.cells #[.int .i64 y.tick, .int .i64 y.id] 64] := by
    rw [← hW1, alloc_eq_grow, alloc_eq_grow, grow_grow]; rfl
  obtain ⟨W2, hW2⟩ : ∃ W2, ({ W1 with drawn := W1.drawn + 1 } : World) = W2 := ⟨_, rfl⟩
  obtain ⟨A2, hg2⟩ : ∃ A, W2 = Go.Sort.grow (W.drewN 1) A := ⟨_, by rw [← hW2, hgr]; rfl⟩
  have e1 : W2.heap[W.heap.size]? = some (Obj.cells #[.int .i64 x.tick, .int .i64 x.id] 64) := by
    rw [← hW2, ← hW1]
    show ((W.heap.push _).push _)[W.heap.size]? = _
    rw [Array.getElem?_push, if_neg (by rw [Array.size_push]; omega), Array.getElem?_push, if_pos rfl]
  have e2 : W2.heap[W.heap.size + 1]? = some (Obj.cells #[.int .i64 y.tick, .int .i64 y.id] 64) := by
    rw [← hW2, ← hW1]
    show ((W.heap.push _).push _)[W.heap.size + 1]? = _
    rw [Array.getElem?_push, if_pos (by rw [Array.size_push])]
  have c1 : W2.cell? ⟨W.heap.size, 0, none⟩ = some (.int .i64 x.tick) := by unfold World.cell?; rw [e1]; rfl
  have c2 : W2.cell? ⟨W.heap.size, 1, none⟩ = some (.int .i64 x.id) := by unfold World.cell?; rw [e1]; rfl
  have c3 : W2.cell? ⟨W.heap.size + 1, 0, none⟩ = some (.int .i64 y.tick) := by unfold World.cell?; rw [e2]; rfl
  have c4 : W2.cell? ⟨W.heap.size + 1, 1, none⟩ = some (.int .i64 y.id) := by unfold World.cell?; rw [e2]; rfl
  have hend : ∀ n os', ∃ q os'', Go.Sort.grow (W2.drewN n) os' = Go.Sort.grow (W.drewN q) os'' := fun n os' => by
    refine ⟨1 + n, A2 ++ os', ?_⟩
    rw [hg2]
    simp [Go.Sort.grow, World.drewN, Nat.add_assoc, Array.append_assoc]
    exact ⟨rfl, rfl, rfl⟩
  clear e1 e2 hg2
  rw [hW1]
  refine wp_region_still_tail 10 mixed (by kernel_rfl) ?_
  rw [hW2]
  clear hW2 hgr hW1
  simp only [List.take_succ_cons, List.take_zero, List.drop_succ_cons, List.drop_zero]
  iterate 4 still_step
  still_call (h1 _)
  iterate 4 still_step
  still_call (h2 _)
  refine wpStill_nil ?_
  go_wp2_with (go_at_call 161; refine (or_int_k _ a b _ (by go_simp) (by go_simp)).mono ?_; rintro e w' ⟨rfl, rfl⟩)
  all_goals
    go_ret
    rw [alloc_eq_grow]
    first
      | exact ⟨rfl, hend 0 _⟩
      | (subst a; exact ⟨by simp, hend 0 _⟩)
      | exact ⟨by simp_all, hend 0 _⟩
      | trace_state

end Go.Proofs
end

section
set_option linter.unusedVariables false

namespace Go.Proofs

open Go.Shelf

def Tryz.sortL_ren : Go.Shelf.Ren := ⟨fun | 6 => 159 | 15 => 171 | 14 => 184 | 28 => 198 | 29 => 199 | 20 => 205 | 21 => 206 | 22 => 207 | 23 => 208 | 24 => 209 | 25 => 210 | 26 => 211 | 27 => 212 | 46 => 222 | 47 => 214 | 48 => 215 | 49 => 223 | 50 => 224 | 57 => 230 | n => n, fun | 22 => 27 | 24 => 64 | 25 => 231 | 3 => 3 | 39 => 242 | 0 => 0 | 53 => 260 | 55 => 67 | 4 => 4 | 46 => 253 | 45 => 252 | 50 => 257 | 5 => 5 | 9 => 9 | 66 => 270 | 70 => 274 | 76 => 283 | 77 => 284 | n => n, fun | n => n⟩

theorem Tryz.sortL : Go.Proofs.SlLaysF0.n6 Tryz.prog Tryz.sortL_ren := {
  mixed := by kernel_rfl
  f6 := ⟨Tryz.f159.name, by decide, Tryz.func159.trans (congrArg some (by kernel_rfl))⟩
  f14 := ⟨Tryz.f184.name, by decide, Tryz.func184.trans (congrArg some (by kernel_rfl))⟩
  f15 := Tryz.func171.trans (congrArg some (by kernel_rfl))
  f20 := ⟨Tryz.f205.name, by decide, Tryz.func205.trans (congrArg some (by kernel_rfl))⟩
  f21 := ⟨Tryz.f206.name, by decide, Tryz.func206.trans (congrArg some (by kernel_rfl))⟩
  f22 := ⟨Tryz.f207.name, by decide, Tryz.func207.trans (congrArg some (by kernel_rfl))⟩
  f23 := ⟨Tryz.f208.name, by decide, Tryz.func208.trans (congrArg some (by kernel_rfl))⟩
  f24 := ⟨Tryz.f209.name, by decide, Tryz.func209.trans (congrArg some (by kernel_rfl))⟩
  f25 := ⟨Tryz.f210.name, by decide, Tryz.func210.trans (congrArg some (by kernel_rfl))⟩
  f26 := ⟨Tryz.f211.name, by decide, Tryz.func211.trans (congrArg some (by kernel_rfl))⟩
  f27 := ⟨Tryz.f212.name, by decide, Tryz.func212.trans (congrArg some (by kernel_rfl))⟩
  f28 := Tryz.func198.trans (congrArg some (by kernel_rfl))
  f29 := Tryz.func199.trans (congrArg some (by kernel_rfl))
  f46 := ⟨Tryz.f222.name, by decide, Tryz.func222.trans (congrArg some (by kernel_rfl))⟩
  f47 := Tryz.func214.trans (congrArg some (by kernel_rfl))
  f48 := Tryz.func215.trans (congrArg some (by kernel_rfl))
  f49 := ⟨Tryz.f223.name, by decide, Tryz.func223.trans (congrArg some (by kernel_rfl))⟩
  f50 := ⟨Tryz.f224.name, by decide, Tryz.func224.trans (congrArg some (by kernel_rfl))⟩
  f57 := ⟨Tryz.f230.name, by decide, Tryz.func230.trans (congrArg some (by kernel_rfl))⟩
  t0 := Tryz.underlying0
  a0 := Tryz.isAgg0
  z0 := Tryz.sizeOf0
  v0 := Tryz.zeroValue0
  t3 := Tryz.underlying3
  a3 := Tryz.isAgg3
  z3 := Tryz.sizeOf3
  v3 := Tryz.zeroValue3
  t4 := Tryz.underlying4
  a4 := Tryz.isAgg4
  z4 := Tryz.sizeOf4
  v4 := Tryz.zeroValue4
  t5 := Tryz.underlying5
  a5 := Tryz.isAgg5
  z5 := Tryz.sizeOf5
  v5 := Tryz.zeroValue5
  t9 := Tryz.underlying9
  a9 := Tryz.isAgg9
  z9 := Tryz.sizeOf9
  v9 := Tryz.zeroValue9
  t22 := Tryz.underlying27
  a22 := Tryz.isAgg27
  z22 := Tryz.sizeOf27
  v22 := Tryz.zeroValue27
  t25 := Tryz.underlying231
  a25 := Tryz.isAgg231
  z25 := Tryz.sizeOf231
  v25 := Tryz.zeroValue231
  t39 := Tryz.underlying242
  a39 := Tryz.isAgg242
  z39 := Tryz.sizeOf242
  v39 := Tryz.zeroValue242
  t45 := Tryz.underlying252
  a45 := Tryz.isAgg252
  z45 := Tryz.sizeOf252
  v45 := Tryz.zeroValue252
  t46 := Tryz.underlying253
  a46 := Tryz.isAgg253
  z46 := Tryz.sizeOf253
  v46 := Tryz.zeroValue253
  t50 := Tryz.underlying257
  a50 := Tryz.isAgg257
  z50 := Tryz.sizeOf257
  v50 := Tryz.zeroValue257
  t53 := Tryz.underlying260
  a53 := Tryz.isAgg260
  z53 := Tryz.sizeOf260
  v53 := Tryz.zeroValue260
  t55 := Tryz.underlying67
  a55 := Tryz.isAgg67
  z55 := Tryz.sizeOf67
  v55 := Tryz.zeroValue67
  t66 := Tryz.underlying270
  a66 := Tryz.isAgg270
  z66 := Tryz.sizeOf270
  v66 := Tryz.zeroValue270
  t70 := Tryz.underlying274
  a70 := Tryz.isAgg274
  z70 := Tryz.sizeOf274
  v70 := Tryz.zeroValue274
  t76 := Tryz.underlying283
  a76 := Tryz.isAgg283
  z76 := Tryz.sizeOf283
  v76 := Tryz.zeroValue283
  t77 := Tryz.underlying284
  a77 := Tryz.isAgg284
  z77 := Tryz.sizeOf284
  v77 := Tryz.zeroValue284 }

end Go.Proofs
end
