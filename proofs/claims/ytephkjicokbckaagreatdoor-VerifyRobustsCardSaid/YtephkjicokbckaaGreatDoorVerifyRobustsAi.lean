import Derived.Test.YtephkjicokbckaaGreatDoorVerifyRobustsNa
import Derived.Test.YtephkjicokbckaaGreatDoorVerifyRobustsTo
import Derived.Shelf.LaysM
import Derived.Shelf.Strconv.AppendInt10
import Derived.Ground.NamesProg
import Derived.Lib.AppendStr
import Derived.WalkKit
import Derived.OwnWalk
import Derived.BigCall
import Derived.BigGuard
import Derived.KernelRfl
section
set_option linter.unusedVariables false

set_option linter.unusedSimpArgs false

namespace Go.Proofs

open Go Go.Vx Go.Gm

structure SlD (α : Type) where
  p : Option Addr
  c : Nat
  l : List α

def slV {α : Type} (d : SlD α) : Value := .slice d.p d.l.length d.c

def slVs {α : Type} (d : SlD α) : List Value := [slV d]

def cat {α : Type} (Ls : List (SlD α)) : List α := Ls.flatMap (·.l)

theorem cat_next {α : Type} {Ls : List (SlD α)} {i : Nat} {d : SlD α} (h : Ls[i]? = some d) : cat (Ls.take (i + 1)) = cat (Ls.take i) ++ d.l := by
  unfold cat
  rw [List.take_add_one, h, Option.toList_some, List.flatMap_append]
  simp

theorem cat_take_le {α : Type} (Ls : List (SlD α)) (i : Nat) : (cat (Ls.take i)).length ≤ (cat Ls).length := by
  have : cat Ls = cat (Ls.take i) ++ cat (Ls.drop i) := by unfold cat; rw [← List.flatMap_append, List.take_append_drop]
  rw [this, List.length_append]
  omega

theorem concatInt_any (Ls : List (SlD Int)) (hn : Ls.length ≤ 1000) (hsz : (cat Ls).length ≤ 1000000) (pp : Option Addr) (cc bb oo : Nat) (w : World) (hc : Sl w slVs 1 Ls pp Ls.length bb oo) (hs : ∀ d ∈ Ls, ∃ b off, Sl w intV 1 d.l d.p d.l.length b off) :
    Calls Tryz.prog 119 #[.slice pp Ls.length cc] w fun e w' => ∃ y : Option Addr × Nat, e = .returned (.slice y.1 (cat Ls).length y.2) ∧ (0 < (cat Ls).length → ∃ g, y.1 = some ⟨g, 0, none⟩) ∧ St w [] [.vec y.1 (cat Ls).length y.2 3 1 (flat intV (cat Ls))] w' := by
  refine enter (C := Tryz.cx) (F := Tryz.fx119) (args := [_]) Tryz.func119 rfl rfl rfl Tryz.ok119 (St.start w []) ?_
  repeat' (conv => whnf); first | (refine VSeq.go ?_) | (refine VB.is ?_; refine VB.no (by omega) fun _ => ?_)
  all_goals (conv => whnf)
  refine VLoop.kr (α := Nat) [1000000, 0, 2, 9, 10] rfl (fun i => i ≤ Ls.length) (fun i K => (11, .int .i64 (i : Int)) :: (3, .int .i64 ((cat (Ls.take i)).length : Int)) :: K) (fun _ => []) (fun i => Ls.length - i) 0 (by omega) aE aH ?_
  intro i hi
  rcases Nat.lt_or_ge i Ls.length with hlt | hge
  · obtain ⟨d, hd⟩ := hc.get hlt
    have hnx := cat_next hd
    have hle := cat_take_le Ls (i + 1)
    rw [hnx, List.length_append] at hle
    repeat' (conv => whnf); first | (refine VIx.is ?_; refine VIx.mk (hc.ptr (by omega)) (by omega) (by omega) ?_) | (refine VLd.is ?_; refine VLd.mk (Rd.cast (hc.rd0 (by simp) (fun _ => rfl) hd rfl) (by first | omega | (dsimp only; omega) | rfl)) ?_) | (refine VSeq.go ?_) | (refine VB.is ?_; refine VB.yes (by omega) fun _ => ?_) | (refine VB.is ?_; refine VB.no (by omega) fun _ => ?_) | (refine VAr.is ?_; refine oA ?_)
    all_goals (conv => whnf)
    refine VNext.mk (i + 1) (by omega) (by omega) ?_ aH
    rw [hnx, List.length_append]
    exact aE
  · rw [List.take_of_length_le hge]
    by_cases h0 : (cat Ls).length = 0
    · have hall : ∀ i, cat (Ls.take i) = [] := fun i => List.eq_nil_of_length_eq_zero (by have := cat_take_le Ls i; omega)
      repeat' (conv => whnf); first | (refine VCall.isF 169 ?_; refine VCall.inl (F := Tryz.fx169) Tryz.func169 rfl rfl rfl Tryz.ok169 ?_) | (refine VSeq.go ?_) | (refine VB.is ?_; refine VB.no (by omega) fun _ => ?_) | (refine VAr.is ?_; refine oA ?_)
      all_goals (conv => whnf)
      refine VLoop.kr (α := Nat × Option Addr × Nat) [1000000, 2, 25, 26] rfl (fun y => y.1 ≤ Ls.length) (fun y K => (27, .int .i64 (y.1 : Int)) :: (6, .slice y.2.1 (cat (Ls.take y.1)).length y.2.2) :: K)
        (fun y => [.vec y.2.1 (cat (Ls.take y.1)).length y.2.2 3 1 (flat intV (cat (Ls.take y.1)))]) (fun y => Ls.length - y.1) (0, none, 0) (by simp) aE aH ?_
      rintro ⟨j, p, cap⟩ hj
      dsimp only at hj ⊢
      rcases Nat.lt_or_ge j Ls.length with hltj | hgej
      · obtain ⟨d, hd⟩ := hc.get hltj
        obtain ⟨b1, o1, hsl⟩ := hs d (List.mem_of_getElem? hd)
        have hnx := cat_next hd
        have hle := cat_take_le Ls (j + 1)
        rw [hnx, List.length_append] at hle
        repeat' (conv => whnf); first | (refine VIx.is ?_; refine VIx.mk (hc.ptr (by omega)) (by omega) (by omega) ?_) | (refine VLd.is ?_; refine VLd.mk (Rd.cast (hc.rd0 (by simp) (fun _ => rfl) hd rfl) (by first | omega | (dsimp only; omega) | rfl)) ?_) | (refine VAp.is ?_; refine VAp.own (p := p) aT (hsl.src (by simp) (fun _ => rfl)) (flat_one_cell (by simp [intV, Value.oneCell'])) (by (try dsimp only); omega) (by simp only [maxLen]; omega) fun p' cap' hp' => ?_) | (refine VSeq.go ?_) | (refine VB.is ?_; refine VB.yes (by omega) fun _ => ?_) | (refine VAr.is ?_; refine oA ?_)
        all_goals (conv => whnf)
        refine VNext.mk (j + 1, p', cap') (by dsimp only; omega) (by dsimp only; omega) ?_ ?_
        · dsimp only; rw [hnx, List.length_append]; exact aE
        · dsimp only; rw [hnx, List.length_append, flat_append]; exact aH
      · rw [List.take_of_length_le hgej]
        repeat' (conv => whnf); first | (refine VSeq.go ?_) | (refine VB.is ?_; refine VB.no (by omega) fun _ => ?_)
        all_goals (conv => whnf)
        exact ⟨fun w' hw' => ⟨(p, cap), rfl, fun h => by omega, hw'.le aH⟩⟩
    · have hz := flat_rep (f := intV) (x := (0 : Int)) (cat Ls).length
      repeat' (conv => whnf); first | (refine VCall.isF 169 ?_; refine VCall.inl (F := Tryz.fx169) Tryz.func169 rfl rfl rfl Tryz.ok169 ?_) | (refine VSl.is ?_; refine VSl.is ?_; refine VSl.cut0 (m := 0) (cap := 0) (by omega) ?_) | (refine VApZ.is ?_; refine VApZ.nil (m := (cat Ls).length) rfl rfl rfl (by omega) (by omega) (by (try dsimp only); omega) (by simp only [maxLen]; omega) fun b cap' hcap => ?_) | (refine VSl.is ?_; refine VSl.is ?_; refine VSl.cut0 (m := 0) (cap := cap') (by omega) ?_) | (refine VSeq.go ?_) | (refine VB.is ?_; refine VB.yes (by omega) fun _ => ?_) | (refine VB.is ?_; refine VB.no (by omega) fun _ => ?_) | (refine VAr.is ?_; refine oA ?_)
      all_goals (conv => whnf)
      refine VLoop.krL (α := Nat × Option Addr × Nat) [1000000, 2, 25, 26] rfl (fun y => y.1 ≤ Ls.length) (fun y K => (27, .int .i64 (y.1 : Int)) :: (6, .slice y.2.1 (cat (Ls.take y.1)).length y.2.2) :: K)
        (fun y => [.vec y.2.1 (cat (Ls.take y.1)).length y.2.2 3 1 (flat intV (cat (Ls.take y.1)))]) (fun y => Ls.length - y.1) (0, some ⟨b, 0, none⟩, cap') (fun y => 0 < (cat (Ls.take y.1)).length → ∃ g, y.2.1 = some ⟨g, 0, none⟩) (fun y _ w hw => (vec_facts (hw _ (List.mem_cons_self ..))).2.1) (by simp) aE ?_ ?_
      · have := HLe.shr (f := intV) (k := 1) (l := List.replicate (cat Ls).length (0 : Int)) (p := some ⟨b, 0, none⟩) (n := (cat Ls).length) (m := 0) (cap := cap') (e := 3) (H := [.vec (some ⟨b, 0, none⟩) (cat Ls).length cap' 3 1 (flat intV (List.replicate (cat Ls).length (0 : Int)))]) (H' := []) .here (fun _ => rfl) (by simp) (by omega) .nil
        rw [← hz] at this
        exact this
      rintro ⟨j, p, cap⟩ hj hptr
      dsimp only at hj hptr ⊢
      rcases Nat.lt_or_ge j Ls.length with hltj | hgej
      · obtain ⟨d, hd⟩ := hc.get hltj
        obtain ⟨b1, o1, hsl⟩ := hs d (List.mem_of_getElem? hd)
        have hnx := cat_next hd
        have hle := cat_take_le Ls (j + 1)
        rw [hnx, List.length_append] at hle
        repeat' (conv => whnf); first | (refine VIx.is ?_; refine VIx.mk (hc.ptr (by omega)) (by omega) (by omega) ?_) | (refine VLd.is ?_; refine VLd.mk (Rd.cast (hc.rd0 (by simp) (fun _ => rfl) hd rfl) (by first | omega | (dsimp only; omega) | rfl)) ?_) | (refine VAp.is ?_; refine VAp.own (p := p) aT (hsl.src (by simp) (fun _ => rfl)) (flat_one_cell (by simp [intV, Value.oneCell'])) (by (try dsimp only); omega) (by simp only [maxLen]; omega) fun p' cap' hp' => ?_) | (refine VSeq.go ?_) | (refine VB.is ?_; refine VB.yes (by omega) fun _ => ?_) | (refine VAr.is ?_; refine oA ?_)
        all_goals (conv => whnf)
        refine VNext.mk (j + 1, p', cap') (by dsimp only; omega) (by dsimp only; omega) ?_ ?_
        · dsimp only; rw [hnx, List.length_append]; exact aE
        · dsimp only; rw [hnx, List.length_append, flat_append]; exact aH
      · rw [List.take_of_length_le hgej] at hptr ⊢
        repeat' (conv => whnf); first | (refine VSeq.go ?_) | (refine VB.is ?_; refine VB.no (by omega) fun _ => ?_)
        all_goals (conv => whnf)
        exact ⟨fun w' hw' => ⟨(p, cap), rfl, hptr, hw'.le aH⟩⟩

end Go.Proofs
end

section
set_option linter.unusedVariables false

set_option linter.unusedSimpArgs false

namespace Go.Proofs

open Go Go.Vx Go.Gm Go.RowKit Go.WideShapes Go.ChangeShapes Go.Deep Go.Joins

section

variable {H : Type} {enc : TypeId × Value → H} {W : World} {base b0 : Nat} {spare : Nat → Bool} {held : Bool} {r : Reach}

end

end Go.Proofs
end

section
set_option linter.unusedVariables false

set_option linter.unusedSimpArgs false

section

namespace Go.Proofs

open Go.Shelf

def Tryz.laysM249_ren : Go.Shelf.Ren := ⟨fun | 249 => 172 | 288 => 200 | 283 => 218 | 284 => 219 | 285 => 220 | 286 => 221 | 129 => 199 | 317 => 226 | 318 => 227 | 319 => 228 | 320 => 229 | 337 => 231 | 338 => 232 | n => n, fun | 37 => 58 | 2 => 2 | 3 => 3 | 53 => 67 | 4 => 4 | 9 => 9 | 171 => 277 | 0 => 0 | 173 => 279 | 212 => 288 | 51 => 260 | 5 => 5 | 20 => 20 | 213 => 289 | 46 => 242 | 232 => 291 | 233 => 292 | n => n, fun | 17 => 0 | 18 => 1 | 19 => 2 | n => n⟩

theorem Tryz.laysM249 : Go.Proofs.LaysM.n249 Tryz.prog Tryz.laysM249_ren := {
  mixed := by kernel_rfl
  f129 := Tryz.func199.trans (congrArg some (by kernel_rfl))
  f249 := Tryz.func172.trans (congrArg some (by kernel_rfl))
  f283 := Tryz.func218.trans (congrArg some (by kernel_rfl))
  f284 := Tryz.func219.trans (congrArg some (by kernel_rfl))
  f285 := Tryz.func220.trans (congrArg some (by kernel_rfl))
  f286 := Tryz.func221.trans (congrArg some (by kernel_rfl))
  f288 := Tryz.func200.trans (congrArg some (by kernel_rfl))
  f317 := Tryz.func226.trans (congrArg some (by kernel_rfl))
  f318 := Tryz.func227.trans (congrArg some (by kernel_rfl))
  f319 := Tryz.func228.trans (congrArg some (by kernel_rfl))
  f320 := Tryz.func229.trans (congrArg some (by kernel_rfl))
  f337 := Tryz.func231.trans (congrArg some (by kernel_rfl))
  f338 := Tryz.func232.trans (congrArg some (by kernel_rfl))
  t0 := Tryz.underlying0
  a0 := Tryz.isAgg0
  z0 := Tryz.sizeOf0
  v0 := Tryz.zeroValue0
  t2 := Tryz.underlying2
  a2 := Tryz.isAgg2
  z2 := Tryz.sizeOf2
  v2 := Tryz.zeroValue2
  t3 := Tryz.underlying3
  a3 := Tryz.isAgg3
  z3 := Tryz.sizeOf3
  v3 := Tryz.zeroValue3
  t4 := Tryz.underlying4
  a4 := Tryz.isAgg4
  z4 := Tryz.sizeOf4
  v4 := Tryz.zeroValue4
  t5 := Tryz.underlying5
  a5 := Tryz.isAgg5
  z5 := Tryz.sizeOf5
  v5 := Tryz.zeroValue5
  t9 := Tryz.underlying9
  a9 := Tryz.isAgg9
  z9 := Tryz.sizeOf9
  v9 := Tryz.zeroValue9
  t20 := Tryz.underlying20
  a20 := Tryz.isAgg20
  z20 := Tryz.sizeOf20
  v20 := Tryz.zeroValue20
  t37 := Tryz.underlying58
  a37 := Tryz.isAgg58
  z37 := Tryz.sizeOf58
  v37 := Tryz.zeroValue58
  t46 := Tryz.underlying242
  a46 := Tryz.isAgg242
  z46 := Tryz.sizeOf242
  v46 := Tryz.zeroValue242
  t51 := Tryz.underlying260
  a51 := Tryz.isAgg260
  z51 := Tryz.sizeOf260
  v51 := Tryz.zeroValue260
  t53 := Tryz.underlying67
  a53 := Tryz.isAgg67
  z53 := Tryz.sizeOf67
  v53 := Tryz.zeroValue67
  t171 := Tryz.underlying277
  a171 := Tryz.isAgg277
  z171 := Tryz.sizeOf277
  v171 := Tryz.zeroValue277
  t173 := Tryz.underlying279
  a173 := Tryz.isAgg279
  z173 := Tryz.sizeOf279
  v173 := Tryz.zeroValue279
  t212 := Tryz.underlying288
  a212 := Tryz.isAgg288
  z212 := Tryz.sizeOf288
  v212 := Tryz.zeroValue288
  t213 := Tryz.underlying289
  a213 := Tryz.isAgg289
  z213 := Tryz.sizeOf289
  t232 := Tryz.underlying291
  a232 := Tryz.isAgg291
  z232 := Tryz.sizeOf291
  v232 := Tryz.zeroValue291
  t233 := Tryz.underlying292
  a233 := Tryz.isAgg292
  z233 := Tryz.sizeOf292
  v233 := Tryz.zeroValue292
  g17 := by kernel_rfl
  g18 := by kernel_rfl
  g19 := by kernel_rfl
  i0 := by kernel_rfl
  i2 := by kernel_rfl
  i3 := by kernel_rfl
  i4 := by kernel_rfl
  i5 := by kernel_rfl
  i9 := by kernel_rfl
  i20 := by kernel_rfl
  i37 := by kernel_rfl
  i46 := by kernel_rfl
  i51 := by kernel_rfl
  i53 := by kernel_rfl
  i171 := by kernel_rfl
  i173 := by kernel_rfl
  i212 := by kernel_rfl
  i232 := by kernel_rfl
  i233 := by kernel_rfl
  m17 := by kernel_rfl
  m18 := by kernel_rfl
  m19 := by kernel_rfl }

open Go.RowKit Go.Sort Go.Lib in

theorem Tryz.internal_strconv_AppendInt_10 (B n : Nat) (i : Int) (h0 : -9223372036854775808 ≤ i) (h1 : i ≤ 9223372036854775807) (sv : Value) (xs : List Value) (w : World) (hown : w.ownsRow B 5 1 sv n xs) (hBw : B ≤ w.heap.size) (hlim : n + 21 ≤ 140737488355328) (htab : Lib.TabBelow Tryz.prog B w "internal/strconv.uint64pow10" .u64 Lib.pow10Tab) :
    Calls Tryz.prog 172 #[sv, .int .i64 i, .int .i64 10] w fun e w' => ∃ v', e = .returned v' ∧ w'.ownsRow B 5 1 v' (n + (Lib.itoa i).length) (xs ++ Lib.byteCells (Lib.itoa i)) ∧ Below B w w' ∧ Lib.OthersKept 5 none w w' := Any.internal_strconv_AppendInt_10 Tryz.laysM249 B n i h0 h1 sv xs w hown hBw hlim htab

end Go.Proofs

end

namespace Go.Proofs

open Go Go.Vx Go.Gm

def PowTab (w : World) : Prop := Lib.TabIs Tryz.prog w "internal/strconv.uint64pow10" .u64 Lib.pow10Tab

def notB8 : Ent → Prop
  | .row _ e _ => e ≠ 5
  | .vec _ _ _ e _ _ => e ≠ 5
  | .obj _ o => ∀ c fz, o ≠ .cells c 5 fz
  | _ => True

theorem notB8_obj {w : World} : ∀ {x : Ent}, x.sat w → notB8 x → ∀ b, x.id = some b → ∃ o, w.heap[b]? = some o ∧ ∀ c fz, o ≠ .cells c 5 fz
  | .row b e cs, h, hn, c, hc => by
    cases hc
    exact ⟨_, h, fun c fz hx => by cases hx; exact hn rfl⟩
  | .vec p n cap e size xs, h, hn, c, hc => by
    cases p with
    | none => simp [Ent.id] at hc
    | some a =>
      obtain ⟨g, cur, hg, hh, _⟩ := vec_some h
      subst hg
      simp only [Ent.id, Option.map_some, Option.some.injEq] at hc
      subst hc
      exact ⟨_, hh, fun c fz hx => by cases hx; exact hn rfl⟩
  | .map b m, h, hn, c, hc => by
    cases hc
    obtain ⟨es, cl, h1, _⟩ := h
    exact ⟨_, h1, fun c fz hx => by cases hx⟩
  | .mapk b m, h, hn, c, hc => by
    cases hc
    obtain ⟨es, cl, h1, _⟩ := h
    exact ⟨_, h1, fun c fz hx => by cases hx⟩
  | .obj b o, h, hn, c, hc => by
    cases hc
    exact ⟨_, h, hn⟩
  | .loop b s pe n env ps x y d, h, hn, c, hc => by
    cases hc
    obtain ⟨fn, tmps, _, _, _, h1⟩ := h
    exact ⟨_, h1, fun c fz hx => by cases hx⟩

theorem decDigits_pos (u : Nat) : 0 < (Lib.decDigits u).length := by
  rw [Lib.decDigits]
  split
  · simp
  · simp

theorem itoa_pos (n : Int) : 0 < (Lib.itoa n).length := by
  unfold Lib.itoa
  split
  · simp
  · exact decDigits_pos _

theorem bytes_call {w0 : World} {H r : HP} {u : Ent → HP} {K : Value → HP → Prop} {f : Nat} {args : List Value} (p : Option Addr) (n cap : Nat) (xs : List Value) (hat : At H (.vec p n cap 5 1 xs) u r) (m : Nat) (bs : List Value) (hm : 0 < n + m) (hoth : ∀ x ∈ r, notB8 x)
    (hc : ∀ w, St w0 [] H w → w.ownsRow w0.heap.size 5 1 (.slice p n cap) n xs → Calls Tryz.cx.P f args.toArray w fun e w' => ∃ v', e = .returned v' ∧ w'.ownsRow w0.heap.size 5 1 v' (n + m) (xs ++ bs) ∧ RowKit.Below w0.heap.size w w' ∧ Lib.OthersKept 5 none w w')
    (hk : ∀ p' cap', (∃ g, p' = some ⟨g, 0, none⟩) → K (.slice p' (n + m) cap') (.vec p' (n + m) cap' 5 1 (xs ++ bs) :: r)) : VCall Tryz.cx.P w0 [] H f args K := by
  refine .mk fun w hw => ?_
  have hsat := hw.own _ hat.mem
  have hB : w.ownsRow w0.heap.size 5 1 (.slice p n cap) n xs := by
    obtain ⟨h1, h2⟩ := hsat
    refine ⟨h1, ?_⟩
    rcases h2 with h2 | ⟨g, c, cur, hv, h3, h4⟩
    · exact .inl h2
    · refine .inr ⟨g, c, cur, hv, ?_, h4⟩
      simp only [Value.slice.injEq] at hv
      have hmem : g ∈ ids H := by
        have := hat.mem
        unfold ids
        rw [List.mem_filterMap]
        exact ⟨_, this, by rw [hv.1]; rfl⟩
      rcases hw.from_ g hmem with h | h
      · simp at h
      · exact h
  refine (hc w hw hB).mono fun e w' ⟨v', he, hown, hbel, hkept⟩ => ?_
  obtain ⟨g1, g2⟩ := hown
  rcases g2 with ⟨_, g3⟩ | ⟨g, c, cur, hv, hg0, hg, hc1, hc2, hc3, hc4⟩
  · omega
  subst hv
  refine ⟨_, _, he, ?_, hk (some ⟨g, 0, none⟩) c ⟨g, rfl⟩⟩
  have hids : ∀ b ∈ ids r, b ∈ ids H := fun b hb => by
    have hp := hat.perm
    unfold ids at hb ⊢
    rw [List.mem_filterMap] at hb ⊢
    obtain ⟨x, hx, hxb⟩ := hb
    exact ⟨x, hp.mem_iff.2 (List.mem_cons_of_mem _ hx), hxb⟩
  have hrm : ∀ x ∈ r, x ∈ H := fun x hx => hat.perm.mem_iff.2 (List.mem_cons_of_mem _ hx)
  have hkeepx : ∀ x ∈ r, ∀ b, x.id = some b → w'.heap[b]? = w.heap[b]? ∧ ∃ o, w'.heap[b]? = some o ∧ ∀ c fz, o ≠ .cells c 5 fz := fun x hx b hb => by
    obtain ⟨o, ho, hno⟩ := notB8_obj (hw.own x (hrm x hx)) (hoth x hx) b hb
    have := hkept b o ho (by simp) hno
    exact ⟨by rw [this, ho], o, this, hno⟩
  refine ⟨hbel.os.trans hw.os, hbel.tape.trans hw.tape, hbel.output.trans hw.output, Nat.le_trans hw.size hbel.size, fun b hb hM => (hbel.block b hb).trans (hw.old b hb hM), ?_, ?_, ?_⟩
  · intro x hx
    rcases List.mem_cons.1 hx with rfl | hx
    · exact ⟨g1, .inr ⟨g, c, cur, rfl, Nat.zero_le _, hg, hc1, hc2, hc3, hc4⟩⟩
    · exact Ent.keep (hw.own x (hrm x hx)) fun b hb => (hkeepx x hx b hb).1
  · intro b hb
    rw [ids_cons] at hb
    rcases List.mem_append.1 hb with hb | hb
    · simp only [Ent.id, Option.map_some, Option.mem_toList, Option.mem_def, Option.some.injEq] at hb
      subst hb
      exact .inr hg0
    · exact hw.from_ b (hids b hb)
  · rw [ids_cons]
    have hnd : (ids r).Nodup := by
      have h1 := (hw.perm hat.perm).nodup
      rw [ids_cons] at h1
      exact (List.nodup_append.1 h1).2.1
    refine List.nodup_append.2 ⟨by cases hid : (Ent.vec (some ⟨g, 0, none⟩) (n + m) c 5 1 (xs ++ bs)).id <;> simp, hnd, fun a ha b hb hab => ?_⟩
    subst hab
    simp only [Ent.id, Option.map_some, Option.mem_toList, Option.mem_def, Option.some.injEq] at ha
    subst ha
    unfold ids at hb
    rw [List.mem_filterMap] at hb
    obtain ⟨x, hx, hxb⟩ := hb
    obtain ⟨_, o, ho, hno⟩ := hkeepx x hx _ hxb
    rw [hg] at ho
    cases ho
    exact hno _ _ rfl

theorem appInt_call {w0 : World} {H r : HP} {u : Ent → HP} {K : Value → HP → Prop} (p : Option Addr) (n cap : Nat) (xs : List Value) (hat : At H (.vec p n cap 5 1 xs) u r) (i : Int) (hi : I64 i) (hlim : n ≤ 100000000) (htab : PowTab w0) (hoth : ∀ x ∈ r, notB8 x)
    (hk : ∀ p' cap', (∃ g, p' = some ⟨g, 0, none⟩) → K (.slice p' (n + (Lib.itoa i).length) cap') (.vec p' (n + (Lib.itoa i).length) cap' 5 1 (xs ++ Lib.byteCells (Lib.itoa i)) :: r)) :
    VCall Tryz.cx.P w0 [] H 172 [.slice p n cap, .int .i64 i, .int .i64 10] K :=
  bytes_call p n cap xs hat (Lib.itoa i).length (Lib.byteCells (Lib.itoa i)) (by have := itoa_pos i; omega) hoth
    (fun w hw hB => Tryz.internal_strconv_AppendInt_10 w0.heap.size n i hi.1 hi.2 (.slice p n cap) xs w hB hw.size (by omega) ((Lib.tabBelow_of_tabIs htab).on hw.below)) hk

def boolB (b : Bool) : List UInt8 := if b then [116, 114, 117, 101] else [102, 97, 108, 115, 101]

end Go.Proofs

section

namespace Go.Proofs

open Go Go.Vx Go.Gm Go.RowKit Go.Lib Go.Shelf

set_option maxRecDepth 100000 in
theorem appBool_true (B n : Nat) (sv : Value) (xs : List Value) (w : World) (hown : w.ownsRow B 5 1 sv n xs) (hBw : B ≤ w.heap.size) (hlim : n ≤ 100000000) :
    Calls Tryz.prog 173 #[sv, .bool true] w fun e w' => ∃ v', e = .returned v' ∧ w'.ownsRow B 5 1 v' (n + 4) (xs ++ Lib.byteCells (boolB true)) ∧ Below B w w' ∧ OthersKept 5 none w w' := by
  obtain ⟨i0, hi, hz0, hz1, hz2⟩ := info_parts Tryz.laysM249.i5
  have hsz : "true".toUTF8.size = 4 := by decide
  have hcs : strCells "true".toUTF8 = Lib.byteCells (boolB true) := by kernel_rfl
  go_enter Tryz.func173, Tryz.ntmps173
  go_wp2_with (at_builtin; refine wpList_append_own_string _ rfl _ _ 58 9 rfl B 5 i0 Tryz.underlying58 Tryz.underlying9 hi hz0 hz1 hz2 _ _ _ rfl hown "true".toUTF8 (by rfl) (by unfold maxLen; omega) (by omega) hBw fun v' w' h1 h2 h3 => ?_)
  go_ret
  rw [hsz, hcs] at h1
  exact ⟨_, rfl, h1, (Below.refl B w).grown h2 hBw (fun k hk => (hown.lt k hk).1), (OthersKept.refl _ _ w).grown h2 (ownsRow_kind hown)⟩

set_option maxRecDepth 100000 in
theorem appBool_false (B n : Nat) (sv : Value) (xs : List Value) (w : World) (hown : w.ownsRow B 5 1 sv n xs) (hBw : B ≤ w.heap.size) (hlim : n ≤ 100000000) :
    Calls Tryz.prog 173 #[sv, .bool false] w fun e w' => ∃ v', e = .returned v' ∧ w'.ownsRow B 5 1 v' (n + 5) (xs ++ Lib.byteCells (boolB false)) ∧ Below B w w' ∧ OthersKept 5 none w w' := by
  obtain ⟨i0, hi, hz0, hz1, hz2⟩ := info_parts Tryz.laysM249.i5
  have hsz : "false".toUTF8.size = 5 := by decide
  have hcs : strCells "false".toUTF8 = Lib.byteCells (boolB false) := by kernel_rfl
  go_enter Tryz.func173, Tryz.ntmps173
  go_wp2_with (at_builtin; refine wpList_append_own_string _ rfl _ _ 58 9 rfl B 5 i0 Tryz.underlying58 Tryz.underlying9 hi hz0 hz1 hz2 _ _ _ rfl hown "false".toUTF8 (by rfl) (by unfold maxLen; omega) (by omega) hBw fun v' w' h1 h2 h3 => ?_)
  go_ret
  rw [hsz, hcs] at h1
  exact ⟨_, rfl, h1, (Below.refl B w).grown h2 hBw (fun k hk => (hown.lt k hk).1), (OthersKept.refl _ _ w).grown h2 (ownsRow_kind hown)⟩

end Go.Proofs

end

namespace Go.Proofs

open Go Go.Vx Go.Gm

theorem appBool_call {w0 : World} {H r : HP} {u : Ent → HP} {K : Value → HP → Prop} (p : Option Addr) (n cap : Nat) (xs : List Value) (hat : At H (.vec p n cap 5 1 xs) u r) (b : Bool) (hlim : n ≤ 100000000) (hoth : ∀ x ∈ r, notB8 x)
    (hk : ∀ p' cap', (∃ g, p' = some ⟨g, 0, none⟩) → K (.slice p' (n + (boolB b).length) cap') (.vec p' (n + (boolB b).length) cap' 5 1 (xs ++ Lib.byteCells (boolB b)) :: r)) :
    VCall Tryz.cx.P w0 [] H 173 [.slice p n cap, .bool b] K := by
  cases b with
  | true => exact bytes_call p n cap xs hat 4 (Lib.byteCells (boolB true)) (by omega) hoth (fun w hw hB => appBool_true w0.heap.size n _ xs w hB hw.size hlim) hk
  | false => exact bytes_call p n cap xs hat 5 (Lib.byteCells (boolB false)) (by omega) hoth (fun w hw hB => appBool_false w0.heap.size n _ xs w hB hw.size hlim) hk

end Go.Proofs
end
