import Derived.Test.YtephkjicokbckaaGreatDoorVerifyDisturbedHd
import Derived.Test.YtephkjicokbckaaGreatDoorVerifyDisturbedHc
import Derived.WalkKit
import Derived.Sort.Grow
import Derived.KernelRfl
import Derived.RegionTactic
import Derived.Deep.QuietTactic
import Derived.BigQuiet
import Derived.StillTailTactics
import Derived.Test.YtephkjicokbckaaGreatDoorVerifyDisturbedNa
import Derived.Shelf.SlSortCmp.NoneTotal
section
set_option linter.unusedVariables false

set_option linter.unusedSimpArgs false

namespace Go.Proofs

open Go Go.RowKit Go.Lib Go.Sort Go.Vx Go.Gm

def cmpI (x y : Int) : Int := if x < y then -1 else if y < x then 1 else 0

set_option maxHeartbeats 1000000 in
theorem isNaN_int_k (x : Int) (w : World) : Calls Tryz.prog 185 #[.int .i64 x] w fun e w' => e = .returned (.bool false) ∧ w' = w := by
  go_enter Tryz.func185, Tryz.ntmps185
  go_wp2
  go_ret
  exact ⟨by simp, rfl⟩

set_option maxHeartbeats 1000000 in
theorem compare_int_k (x y : Int) (w : World) : Calls Tryz.prog 162 #[.int .i64 x, .int .i64 y] w fun e w' => e = .returned (.int .i64 (cmpI x y)) ∧ w' = w := by
  go_enter Tryz.func162, Tryz.ntmps162
  go_wp2_with (go_at_call 185; refine (isNaN_int_k _ _).mono ?_; rintro e w' ⟨rfl, hw⟩; rw [hw])
  all_goals (go_ret; refine ⟨?_, rfl⟩; unfold cmpI; (repeat' split) <;> first | rfl | (exfalso; omega))

set_option maxHeartbeats 1000000 in
theorem or_int_k (blk : Nat) (a b : Int) (W : World) (h0 : W.cell? ⟨blk, 0, none⟩ = some (.int .i64 a)) (h1 : W.cell? ⟨blk, 1, none⟩ = some (.int .i64 b)) : Calls Tryz.prog 161 #[.slice (some ⟨blk, 0, none⟩) 2 2] W fun e w' => e = .returned (.int .i64 (if a = 0 then b else a)) ∧ w' = W := by
  go_enter Tryz.func161, Tryz.ntmps161
  go_wp2
  refine wp_loop_rounds 3 ?_
  rw [rounds_succ]
  by_cases ha : a = 0
  · subst ha
    go_wp2
    rw [rounds_succ]
    go_wp2
    all_goals first
      | (go_ret; exact ⟨by simp, rfl⟩)
      | (rw [rounds_succ]; go_wp2; go_ret; refine ⟨?_, rfl⟩; simp_all; done)
      | trace_state
  · have hb : (a != 0) = true := by simp [ha]
    go_wp2
    all_goals first
      | (go_ret; exact ⟨by simp [ha], rfl⟩)
      | (exfalso; simp_all; done)
      | trace_state

set_option maxRecDepth 100000 in
set_option maxHeartbeats 4000000 in
theorem cmpEvt_k (x y : Evt) (W : World) : Calls Tryz.prog 160 #[.agg (evtV x).toArray, .agg (evtV y).toArray] W fun e w' => e = .returned (.int .i64 (if cmpI x.tick y.tick = 0 then cmpI x.id y.id else cmpI x.tick y.tick)) ∧ ∃ q os', w' = Go.Sort.grow (W.drewN q) os' := by
  have h1 := fun W' => compare_int_k x.tick y.tick W'
  have h2 := fun W' => compare_int_k x.id y.id W'
  unfold evtV
  generalize cmpI x.tick y.tick = a at h1 ⊢
  generalize cmpI x.id y.id = b at h2 ⊢
  go_enter Tryz.func160, Tryz.ntmps160
  go_wp2
  have mixed : Tryz.prog.follows .mixedOrders = true := by kernel_rfl
  obtain ⟨W1, hW1⟩ : ∃ W1, (W.alloc (Obj.cells #[.int .i64 x.tick, .int .i64 x.id] 64)).alloc (Obj.cells #[.int .i64 y.tick, .int .i64 y.id] 64) = W1 := ⟨_, rfl⟩
  have hgr : W1 = Go.Sort.grow W #[Obj.cells #[.int .i64 x.tick, .int .i64 x.id] 64, Obj.cells #[.int .i64 y.tick, .int .i64 y.id] 64] := by
    rw [← hW1, alloc_eq_grow, alloc_eq_grow, grow_grow]; rfl
  obtain ⟨W2, hW2⟩ : ∃ W2, ({ W1 with drawn := W1.drawn + 1 } : World) = W2 := ⟨_, rfl⟩
  obtain ⟨A2, hg2⟩ : ∃ A, W2 = Go.Sort.grow (W.drewN 1) A := ⟨_, by rw [← hW2, hgr]; rfl⟩
  have e1 : W2.heap[W.heap.size]? = some (Obj.cells #[.int .i64 x.tick, .int .i64 x.id] 64) := by
    rw [← hW2, ← hW1]
    show ((W.heap.push _).push _)[W.heap.size]? = _
    rw [Array.getElem?_push, if_neg (by rw [Array.size_push]; omega), Array.getElem?_push, if_pos rfl]
  have e2 : W2.heap[W.heap.size + 1]? = some (Obj.cells #[.int .i64 y.tick, .int .i64 y.id] 64) := by
    rw [← hW2, ← hW1]
    show ((W.heap.push _).push _)[W.heap.size + 1]? = _
    rw [Array.getElem?_push, if_pos (by rw [Array.size_push])]
  have c1 : W2.cell? ⟨W.heap.size, 0, none⟩ = some (.int .i64 x.tick) := by unfold World.cell?; rw [e1]; rfl
  have c2 : W2.cell? ⟨W.heap.size, 1, none⟩ = some (.int .i64 x.id) := by unfold World.cell?; rw [e1]; rfl
  have c3 : W2.cell? ⟨W.heap.size + 1, 0, none⟩ = some (.int .i64 y.tick) := by unfold World.cell?; rw [e2]; rfl
  have c4 : W2.cell? ⟨W.heap.size + 1, 1, none⟩ = some (.int .i64 y.id) := by unfold World.cell?; rw [e2]; rfl
  have hend : ∀ n os', ∃ q os'', Go.Sort.grow (W2.drewN n) os' = Go.Sort.grow (W.drewN q) os'' := fun n os' => by
    refine ⟨1 + n, A2 ++ os', ?_⟩
    rw [hg2]
    simp [Go.Sort.grow, World.drewN, Nat.add_assoc, Array.append_assoc]
    exact ⟨rfl, rfl, rfl⟩
  clear e1 e2 hg2
  rw [hW1]
  refine wp_region_still_tail 10 mixed (by kernel_rfl) ?_
  rw [hW2]
  clear hW2 hgr hW1
  simp only [List.take_succ_cons, List.take_zero, List.drop_succ_cons, List.drop_zero]
  iterate 4 still_step
  still_call (h1 _)
  iterate 4 still_step
  still_call (h2 _)
  refine wpStill_nil ?_
  go_wp2_with (go_at_call 161; refine (or_int_k _ a b _ (by go_simp) (by go_simp)).mono ?_; rintro e w' ⟨rfl, rfl⟩)
  all_goals
    go_ret
    rw [alloc_eq_grow]
    first
      | exact ⟨rfl, hend 0 _⟩
      | (subst a; exact ⟨by simp, hend 0 _⟩)
      | exact ⟨by simp_all, hend 0 _⟩
      | trace_state

end Go.Proofs
end

section
set_option linter.unusedVariables false

namespace Go.Proofs

open Go.Shelf

def Tryz.sortL_ren : Go.Shelf.Ren := ⟨fun | 6 => 159 | 15 => 171 | 14 => 184 | 28 => 198 | 29 => 199 | 20 => 205 | 21 => 206 | 22 => 207 | 23 => 208 | 24 => 209 | 25 => 210 | 26 => 211 | 27 => 212 | 46 => 222 | 47 => 214 | 48 => 215 | 49 => 223 | 50 => 224 | 57 => 230 | n => n, fun | 22 => 27 | 24 => 64 | 25 => 231 | 3 => 3 | 39 => 242 | 0 => 0 | 53 => 260 | 55 => 67 | 4 => 4 | 46 => 253 | 45 => 252 | 50 => 257 | 5 => 5 | 9 => 9 | 66 => 270 | 70 => 274 | 76 => 283 | 77 => 284 | n => n, fun | n => n⟩

theorem Tryz.sortL : Go.Proofs.SlLaysF0.n6 Tryz.prog Tryz.sortL_ren := {
  mixed := by kernel_rfl
  f6 := ⟨Tryz.f159.name, by decide, Tryz.func159.trans (congrArg some (by kernel_rfl))⟩
  f14 := ⟨Tryz.f184.name, by decide, Tryz.func184.trans (congrArg some (by kernel_rfl))⟩
  f15 := Tryz.func171.trans (congrArg some (by kernel_rfl))
  f20 := ⟨Tryz.f205.name, by decide, Tryz.func205.trans (congrArg some (by kernel_rfl))⟩
  f21 := ⟨Tryz.f206.name, by decide, Tryz.func206.trans (congrArg some (by kernel_rfl))⟩
  f22 := ⟨Tryz.f207.name, by decide, Tryz.func207.trans (congrArg some (by kernel_rfl))⟩
  f23 := ⟨Tryz.f208.name, by decide, Tryz.func208.trans (congrArg some (by kernel_rfl))⟩
  f24 := ⟨Tryz.f209.name, by decide, Tryz.func209.trans (congrArg some (by kernel_rfl))⟩
  f25 := ⟨Tryz.f210.name, by decide, Tryz.func210.trans (congrArg some (by kernel_rfl))⟩
  f26 := ⟨Tryz.f211.name, by decide, Tryz.func211.trans (congrArg some (by kernel_rfl))⟩
  f27 := ⟨Tryz.f212.name, by decide, Tryz.func212.trans (congrArg some (by kernel_rfl))⟩
  f28 := Tryz.func198.trans (congrArg some (by kernel_rfl))
  f29 := Tryz.func199.trans (congrArg some (by kernel_rfl))
  f46 := ⟨Tryz.f222.name, by decide, Tryz.func222.trans (congrArg some (by kernel_rfl))⟩
  f47 := Tryz.func214.trans (congrArg some (by kernel_rfl))
  f48 := Tryz.func215.trans (congrArg some (by kernel_rfl))
  f49 := ⟨Tryz.f223.name, by decide, Tryz.func223.trans (congrArg some (by kernel_rfl))⟩
  f50 := ⟨Tryz.f224.name, by decide, Tryz.func224.trans (congrArg some (by kernel_rfl))⟩
  f57 := ⟨Tryz.f230.name, by decide, Tryz.func230.trans (congrArg some (by kernel_rfl))⟩
  t0 := Tryz.underlying0
  a0 := Tryz.isAgg0
  z0 := Tryz.sizeOf0
  v0 := Tryz.zeroValue0
  t3 := Tryz.underlying3
  a3 := Tryz.isAgg3
  z3 := Tryz.sizeOf3
  v3 := Tryz.zeroValue3
  t4 := Tryz.underlying4
  a4 := Tryz.isAgg4
  z4 := Tryz.sizeOf4
  v4 := Tryz.zeroValue4
  t5 := Tryz.underlying5
  a5 := Tryz.isAgg5
  z5 := Tryz.sizeOf5
  v5 := Tryz.zeroValue5
  t9 := Tryz.underlying9
  a9 := Tryz.isAgg9
  z9 := Tryz.sizeOf9
  v9 := Tryz.zeroValue9
  t22 := Tryz.underlying27
  a22 := Tryz.isAgg27
  z22 := Tryz.sizeOf27
  v22 := Tryz.zeroValue27
  t25 := Tryz.underlying231
  a25 := Tryz.isAgg231
  z25 := Tryz.sizeOf231
  v25 := Tryz.zeroValue231
  t39 := Tryz.underlying242
  a39 := Tryz.isAgg242
  z39 := Tryz.sizeOf242
  v39 := Tryz.zeroValue242
  t45 := Tryz.underlying252
  a45 := Tryz.isAgg252
  z45 := Tryz.sizeOf252
  v45 := Tryz.zeroValue252
  t46 := Tryz.underlying253
  a46 := Tryz.isAgg253
  z46 := Tryz.sizeOf253
  v46 := Tryz.zeroValue253
  t50 := Tryz.underlying257
  a50 := Tryz.isAgg257
  z50 := Tryz.sizeOf257
  v50 := Tryz.zeroValue257
  t53 := Tryz.underlying260
  a53 := Tryz.isAgg260
  z53 := Tryz.sizeOf260
  v53 := Tryz.zeroValue260
  t55 := Tryz.underlying67
  a55 := Tryz.isAgg67
  z55 := Tryz.sizeOf67
  v55 := Tryz.zeroValue67
  t66 := Tryz.underlying270
  a66 := Tryz.isAgg270
  z66 := Tryz.sizeOf270
  v66 := Tryz.zeroValue270
  t70 := Tryz.underlying274
  a70 := Tryz.isAgg274
  z70 := Tryz.sizeOf274
  v70 := Tryz.zeroValue274
  t76 := Tryz.underlying283
  a76 := Tryz.isAgg283
  z76 := Tryz.sizeOf283
  v76 := Tryz.zeroValue283
  t77 := Tryz.underlying284
  a77 := Tryz.isAgg284
  z77 := Tryz.sizeOf284
  v77 := Tryz.zeroValue284 }

end Go.Proofs
end

section
set_option linter.unusedVariables false

set_option linter.unusedSimpArgs false

namespace Go.Proofs

open Go Go.Vx Go.Gm

open Go.Sort (flatK HoldsK putRowK)

def cmpE (x y : Evt) : Int := if cmpI x.tick y.tick = 0 then cmpI x.id y.id else cmpI x.tick y.tick

def sortE (xs : List Evt) : List Evt := xs.mergeSort fun x y => !(ltOf cmpE) y x

theorem cmpI_lt (a b : Int) : cmpI a b < 0 ↔ a < b := by
  unfold cmpI
  by_cases h1 : a < b
  · simp [h1]
  · by_cases h2 : b < a <;> simp [h1, h2]

theorem cmpI_eq (a b : Int) : cmpI a b = 0 ↔ a = b := by
  unfold cmpI
  by_cases h1 : a < b
  · simp [h1]; omega
  · by_cases h2 : b < a
    · simp [h1, h2]; omega
    · simp [h1, h2]; omega

theorem ltE (x y : Evt) : ltOf cmpE x y = decide (evLt x y) := by
  unfold ltOf
  refine decide_eq_decide.2 ?_
  unfold cmpE evLt
  have h1 := cmpI_eq x.tick y.tick
  have h2 := cmpI_lt x.tick y.tick
  have h3 := cmpI_lt x.id y.id
  by_cases h : cmpI x.tick y.tick = 0
  · rw [if_pos h]; omega
  · rw [if_neg h]; omega

theorem swoE : Go.Sort.SWO (ltOf cmpE) where
  irrefl x := by rw [ltE]; simp [evLt_irrefl]
  trans x y z h1 h2 := by rw [ltE] at *; simp at *; exact evLt_trans h1 h2
  ntrans x y z h1 h2 := by
    rw [ltE] at *
    have h1' := of_decide_eq_false h1
    have h2' := of_decide_eq_false h2
    refine decide_eq_false ?_
    unfold evLt at *
    omega

theorem totE (x y : Evt) (h1 : ltOf cmpE x y = false) (h2 : ltOf cmpE y x = false) : x = y := by
  rw [ltE] at *
  exact evLt_tri (by simpa using h1) (by simpa using h2)

instance : Inhabited Evt := ⟨⟨0, 0⟩⟩

theorem flat_at {α : Type} [Inhabited α] {f : α → List Value} {k : Nat} (hk : ∀ x, (f x).length = k) (hk0 : 0 < k) : ∀ (l : List α) (t : Nat), t < l.length * k → (flat f l)[t]? = some ((f l[t / k]!)[t % k]!)
  | [], t, h => by simp at h
  | x :: r, t, h => by
    have e : flat f (x :: r) = f x ++ flat f r := rfl
    rw [e]
    by_cases ht : t < k
    · rw [List.getElem?_append_left (by rw [hk]; exact ht), Nat.div_eq_of_lt ht, Nat.mod_eq_of_lt ht]
      show _ = some ((f x)[t]!)
      rw [getElem!_pos _ _ (by rw [hk]; exact ht)]
      exact List.getElem?_eq_getElem _
    · obtain ⟨s, rfl⟩ : ∃ s, t = s + k := ⟨t - k, by omega⟩
      rw [List.getElem?_append_right (by rw [hk]; omega), hk, Nat.add_sub_cancel, Nat.add_div_right _ hk0, Nat.add_mod_right]
      rw [flat_at hk hk0 r s (by rw [List.length_cons, Nat.add_mul] at h; omega)]
      simp

theorem flatK_flat {α : Type} [Inhabited α] {f : α → List Value} {k : Nat} (hk : ∀ x, (f x).length = k) (hk0 : 0 < k) (l : List α) : (flatK f k l.toArray).toList = flat f l := by
  apply List.ext_getElem?
  intro t
  by_cases ht : t < l.length * k
  · rw [flat_at hk hk0 l t ht]
    simp [flatK, ht]
  · rw [List.getElem?_eq_none (by simp; omega), List.getElem?_eq_none (by rw [flat_length hk]; omega)]

theorem sortE_some (g off cap : Nat) (xs : List Evt) (w : World) (hH : HoldsK evtV 2 w g off xs.toArray) (hg : g < w.heap.size) (hsz : xs.length < 4611686018427387904) :
    Calls Tryz.prog 159 #[.slice (some ⟨g, off, none⟩) xs.length cap, .func (.func 160) #[] #[]] w fun e w' => e = .returned (.tuple #[]) ∧ ∃ n os, w' = sortWorldK evtV 2 w g off n (sortE xs).toArray os := by
  have eg : ∀ args w, (callFunc 160 args).run Tryz.prog w = .ok (.enter 160 args) w := enters_of Tryz.func160 (by kernel_rfl) rfl
  have hS := AnyQ.slices_SortFunc_total Tryz.sortL 2 Tryz.isAgg64 Tryz.sizeOf64 evtV (fun _ => rfl) (fun x v hv => by simp [evtV] at hv; rcases hv with rfl | rfl <;> rfl) cmpE swoE 160 #[] g off cap xs.toArray w eg (fun _ _ _ _ x y => cmpEvt_k x y _) hH hg (by simpa using hsz) totE
  exact hS

theorem sortE_none (p : Option Addr) (cap : Nat) (w : World) :
    Calls Tryz.prog 159 #[.slice p 0 cap, .func (.func 160) #[] #[]] w fun e w' => e = .returned (.tuple #[]) ∧ w' = w :=
  AnyF.slices_SortFunc_none (P := Tryz.prog) (ρ := Tryz.sortL_ren) Tryz.sortL p cap (.func (.func 160) #[] #[]) w

theorem sortE_call {w0 : World} {M : List Nat} {H r : HP} {u : Ent → HP} {K : Value → HP → Prop} (p : Option Addr) (n cap : Nat) (xs : List Evt) (hn : xs.length = n) (hat : At H (.vec p n cap 64 2 (flat evtV xs)) u r) (hsz : n < 4611686018427387904)
    (hk : K (.tuple #[]) (u (.vec p n cap 64 2 (flat evtV (sortE xs))))) : VCall Tryz.cx.P w0 M H 159 [.slice p n cap, .func (.func 160) #[] #[]] K := by
  refine .mk fun w hw => ?_
  have hsat := hw.own _ hat.mem
  have hsl : (sortE xs).length = n := by unfold sortE; rw [List.length_mergeSort, hn]
  cases p with
  | none =>
    obtain ⟨h1, h2⟩ := hsat
    rcases h2 with ⟨h3, h4⟩ | ⟨g, c, cur, hv, _⟩
    · simp only [Value.slice.injEq] at h3
      have hn0 : n = 0 := h3.2.1
      subst hn0
      have hx : xs = [] := List.eq_nil_of_length_eq_zero hn
      subst hx
      refine (sortE_none none cap w).mono fun e w' ⟨he, hw'⟩ => ?_
      subst hw'
      refine ⟨.tuple #[], _, he, ?_, hk⟩
      have : sortE [] = [] := by simp [sortE]
      rw [this]
      exact hw.turn hat (fun h => h)
    · cases hv
  | some a =>
    obtain ⟨g, cur, hg, hh, hnc, hcm, hcs, ht, hlen⟩ := vec_some hsat
    subst hg
    have hH : HoldsK evtV 2 w g 0 xs.toArray := by
      intro j hj
      have hj' : j < n * 2 := by simpa [hn] using hj
      have h1 : (cur.toList.take (n * 2))[j]? = ((flatK evtV 2 xs.toArray).toList)[j]? := by rw [ht, flatK_flat (f := evtV) (k := 2) (fun _ => rfl) (by omega)]
      rw [List.getElem?_take, if_pos hj'] at h1
      refine ⟨?_, ?_⟩
      · simp only [Nat.zero_add, World.cell?, hh]
        rw [getElem!_pos _ j hj]
        simpa [hj, hj', hn] using h1
      · simp [World.frozen?, hh]
    have hglt : g < w.heap.size := (Array.getElem?_eq_some_iff.1 hh).1
    have hc := sortE_some g 0 cap xs w hH hglt (by omega)
    rw [hn] at hc
    refine hc.mono fun e w' ⟨he, q, os, hw'⟩ => ⟨.tuple #[], _, he, ?_, hk⟩
    subst hw'
    obtain ⟨F, hF⟩ : ∃ F, flatK evtV 2 (sortE xs).toArray = F := ⟨_, rfl⟩
    have hFl : F.toList = flat evtV (sortE xs) := by rw [← hF, flatK_flat (f := evtV) (k := 2) (fun _ => rfl) (by omega)]
    have hFs : F.size = n * 2 := by rw [← Array.length_toList, hFl, flat_length (k := 2) (fun _ => rfl), hsl]
    refine hw.turn hat fun hx => ?_
    have hheap : ∀ b, b < w.heap.size → (Go.Sort.grow (Go.Sort.putRow id (Go.Sort.ahead w q) g 0 F) os).heap[b]? =
        if g = b then (w.heap[b]?).map (Go.Sort.onCells (Go.Sort.putCells id 0 F)) else w.heap[b]? := by
      intro b hb
      simp only [Go.Sort.grow, Go.Sort.putRow, Go.Sort.mapBlock, Go.Sort.ahead]
      rw [Array.getElem?_append_left (by simpa using hb), Array.getElem?_modify]
    unfold sortWorldK putRowK
    rw [hF]
    refine hx.step rfl rfl rfl (by simp [Go.Sort.grow, Go.Sort.putRow, Go.Sort.mapBlock, Go.Sort.ahead]) (fun b hb hne => ?_) ?_ (fun b hb => .inl hb)
    · rw [hheap b hb, if_neg (fun e => hne (by rw [← e]; rfl))]
    · have h2 := hheap g hglt
      rw [if_pos rfl, hh] at h2
      simp only [Option.map_some, Go.Sort.onCells] at h2
      refine ownsRow_mk h2 hnc hcm (by simp [Go.Sort.putCells, hcs]) ?_
      rw [← hFl]
      apply List.ext_getElem?
      intro j
      rw [List.getElem?_take]
      by_cases hj : j < n * 2
      · rw [if_pos (by omega)]
        have hjc : j < cur.size := by have := Nat.mul_le_mul_right 2 hnc; omega
        simp only [Array.getElem?_toList, Go.Sort.putCells, Array.getElem?_mapIdx, hFs, Nat.zero_add, Nat.zero_le, true_and, hj, if_true, Nat.sub_zero, Array.getElem?_eq_getElem hjc, Option.map_some]
        rw [getElem!_pos F j (by omega), Array.getElem?_eq_getElem (by omega)]
        rfl
      · rw [if_neg (by omega), List.getElem?_eq_none (by rw [Array.length_toList]; omega)]

end Go.Proofs
end
