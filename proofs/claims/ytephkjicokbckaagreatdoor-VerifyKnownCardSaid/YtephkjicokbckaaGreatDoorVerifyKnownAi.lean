import Derived.Test.YtephkjicokbckaaGreatDoorVerifyKnownNa
import Derived.Shelf.LaysM
import Derived.Shelf.Strconv.AppendInt10
import Derived.Ground.NamesProg
import Derived.Lib.AppendStr
import Derived.WalkKit
import Derived.OwnWalk
import Derived.BigCall
import Derived.BigGuard
import Derived.KernelRfl
set_option linter.unusedVariables false

set_option linter.unusedSimpArgs false

section

namespace Go.Proofs

open Go.Shelf

def Tryz.laysM249_ren : Go.Shelf.Ren := ⟨fun | 249 => 172 | 288 => 200 | 283 => 218 | 284 => 219 | 285 => 220 | 286 => 221 | 129 => 199 | 317 => 226 | 318 => 227 | 319 => 228 | 320 => 229 | 337 => 231 | 338 => 232 | n => n, fun | 37 => 58 | 2 => 2 | 3 => 3 | 53 => 67 | 4 => 4 | 9 => 9 | 171 => 277 | 0 => 0 | 173 => 279 | 212 => 288 | 51 => 260 | 5 => 5 | 20 => 20 | 213 => 289 | 46 => 242 | 232 => 291 | 233 => 292 | n => n, fun | 17 => 0 | 18 => 1 | 19 => 2 | n => n⟩

theorem Tryz.laysM249 : Go.Proofs.LaysM.n249 Tryz.prog Tryz.laysM249_ren := {
  mixed := by kernel_rfl
  f129 := Tryz.func199.trans (congrArg some (by kernel_rfl))
  f249 := Tryz.func172.trans (congrArg some (by kernel_rfl))
  f283 := Tryz.func218.trans (congrArg some (by kernel_rfl))
  f284 := Tryz.func219.trans (congrArg some (by kernel_rfl))
  f285 := Tryz.func220.trans (congrArg some (by kernel_rfl))
  f286 := Tryz.func221.trans (congrArg some (by kernel_rfl))
  f288 := Tryz.func200.trans (congrArg some (by kernel_rfl))
  f317 := Tryz.func226.trans (congrArg some (by kernel_rfl))
  f318 := Tryz.func227.trans (congrArg some (by kernel_rfl))
  f319 := Tryz.func228.trans (congrArg some (by kernel_rfl))
  f320 := Tryz.func229.trans (congrArg some (by kernel_rfl))
  f337 := Tryz.func231.trans (congrArg some (by kernel_rfl))
  f338 := Tryz.func232.trans (congrArg some (by kernel_rfl))
  t0 := Tryz.underlying0
  a0 := Tryz.isAgg0
  z0 := Tryz.sizeOf0
  v0 := Tryz.zeroValue0
  t2 := Tryz.underlying2
  a2 := Tryz.isAgg2
  z2 := Tryz.sizeOf2
  v2 := Tryz.zeroValue2
  t3 := Tryz.underlying3
  a3 := Tryz.isAgg3
  z3 := Tryz.sizeOf3
  v3 := Tryz.zeroValue3
  t4 := Tryz.underlying4
  a4 := Tryz.isAgg4
  z4 := Tryz.sizeOf4
  v4 := Tryz.zeroValue4
  t5 := Tryz.underlying5
  a5 := Tryz.isAgg5
  z5 := Tryz.sizeOf5
  v5 := Tryz.zeroValue5
  t9 := Tryz.underlying9
  a9 := Tryz.isAgg9
  z9 := Tryz.sizeOf9
  v9 := Tryz.zeroValue9
  t20 := Tryz.underlying20
  a20 := Tryz.isAgg20
  z20 := Tryz.sizeOf20
  v20 := Tryz.zeroValue20
  t37 := Tryz.underlying58
  a37 := Tryz.isAgg58
  z37 := Tryz.sizeOf58
  v37 := Tryz.zeroValue58
  t46 := Tryz.underlying242
  a46 := Tryz.isAgg242
  z46 := Tryz.sizeOf242
  v46 := Tryz.zeroValue242
  t51 := Tryz.underlying260
  a51 := Tryz.isAgg260
  z51 := Tryz.sizeOf260
  v51 := Tryz.zeroValue260
  t53 := Tryz.underlying67
  a53 := Tryz.isAgg67
  z53 := Tryz.sizeOf67
  v53 := Tryz.zeroValue67
  t171 := Tryz.underlying277
  a171 := Tryz.isAgg277
  z171 := Tryz.sizeOf277
  v171 := Tryz.zeroValue277
  t173 := Tryz.underlying279
  a173 := Tryz.isAgg279
  z173 := Tryz.sizeOf279
  v173 := Tryz.zeroValue279
  t212 := Tryz.underlying288
  a212 := Tryz.isAgg288
  z212 := Tryz.sizeOf288
  v212 := Tryz.zeroValue288
  t213 := Tryz.underlying289
  a213 := Tryz.isAgg289
  z213 := Tryz.sizeOf289
  t232 := Tryz.underlying291
  a232 := Tryz.isAgg291
  z232 := Tryz.sizeOf291
  v232 := Tryz.zeroValue291
  t233 := Tryz.underlying292
  a233 := Tryz.isAgg292
  z233 := Tryz.sizeOf292
  v233 := Tryz.zeroValue292
  g17 := by kernel_rfl
  g18 := by kernel_rfl
  g19 := by kernel_rfl
  i0 := by kernel_rfl
  i2 := by kernel_rfl
  i3 := by kernel_rfl
  i4 := by kernel_rfl
  i5 := by kernel_rfl
  i9 := by kernel_rfl
  i20 := by kernel_rfl
  i37 := by kernel_rfl
  i46 := by kernel_rfl
  i51 := by kernel_rfl
  i53 := by kernel_rfl
  i171 := by kernel_rfl
  i173 := by kernel_rfl
  i212 := by kernel_rfl
  i232 := by kernel_rfl
  i233 := by kernel_rfl
  m17 := by kernel_rfl
  m18 := by kernel_rfl
  m19 := by kernel_rfl }

open Go.RowKit Go.Sort Go.Lib in

theorem Tryz.internal_strconv_AppendInt_10 (B n : Nat) (i : Int) (h0 : -9223372036854775808 ≤ i) (h1 : i ≤ 9223372036854775807) (sv : Value) (xs : List Value) (w : World) (hown : w.ownsRow B 5 1 sv n xs) (hBw : B ≤ w.heap.size) (hlim : n + 21 ≤ 140737488355328) (htab : Lib.TabBelow Tryz.prog B w "internal/strconv.uint64pow10" .u64 Lib.pow10Tab) :
    Calls Tryz.prog 172 #[sv, .int .i64 i, .int .i64 10] w fun e w' => ∃ v', e = .returned v' ∧ w'.ownsRow B 5 1 v' (n + (Lib.itoa i).length) (xs ++ Lib.byteCells (Lib.itoa i)) ∧ Below B w w' ∧ Lib.OthersKept 5 none w w' := Any.internal_strconv_AppendInt_10 Tryz.laysM249 B n i h0 h1 sv xs w hown hBw hlim htab

end Go.Proofs

end

namespace Go.Proofs

open Go Go.Vx Go.Gm

def PowTab (w : World) : Prop := Lib.TabIs Tryz.prog w "internal/strconv.uint64pow10" .u64 Lib.pow10Tab

def notB8 : Ent → Prop
  | .row _ e _ => e ≠ 5
  | .vec _ _ _ e _ _ => e ≠ 5
  | .obj _ o => ∀ c fz, o ≠ .cells c 5 fz
  | _ => True

theorem notB8_obj {w : World} : ∀ {x : Ent}, x.sat w → notB8 x → ∀ b, x.id = some b → ∃ o, w.heap[b]? = some o ∧ ∀ c fz, o ≠ .cells c 5 fz
  | .row b e cs, h, hn, c, hc => by
    cases hc
    exact ⟨_, h, fun c fz hx => by cases hx; exact hn rfl⟩
  | .vec p n cap e size xs, h, hn, c, hc => by
    cases p with
    | none => simp [Ent.id] at hc
    | some a =>
      obtain ⟨g, cur, hg, hh, _⟩ := vec_some h
      subst hg
      simp only [Ent.id, Option.map_some, Option.some.injEq] at hc
      subst hc
      exact ⟨_, hh, fun c fz hx => by cases hx; exact hn rfl⟩
  | .map b m, h, hn, c, hc => by
    cases hc
    obtain ⟨es, cl, h1, _⟩ := h
    exact ⟨_, h1, fun c fz hx => by cases hx⟩
  | .mapk b m, h, hn, c, hc => by
    cases hc
    obtain ⟨es, cl, h1, _⟩ := h
    exact ⟨_, h1, fun c fz hx => by cases hx⟩
  | .obj b o, h, hn, c, hc => by
    cases hc
    exact ⟨_, h, hn⟩
  | .loop b s pe n env ps x y d, h, hn, c, hc => by
    cases hc
    obtain ⟨fn, tmps, _, _, _, h1⟩ := h
    exact ⟨_, h1, fun c fz hx => by cases hx⟩

theorem decDigits_pos (u : Nat) : 0 < (Lib.decDigits u).length := by
  rw [Lib.decDigits]
  split
  · simp
  · simp

theorem itoa_pos (n : Int) : 0 < (Lib.itoa n).length := by
  unfold Lib.itoa
  split
  · simp
  · exact decDigits_pos _

theorem bytes_call {w0 : World} {H r : HP} {u : Ent → HP} {K : Value → HP → Prop} {f : Nat} {args : List Value} (p : Option Addr) (n cap : Nat) (xs : List Value) (hat : At H (.vec p n cap 5 1 xs) u r) (m : Nat) (bs : List Value) (hm : 0 < n + m) (hoth : ∀ x ∈ r, notB8 x)
    (hc : ∀ w, St w0 [] H w → w.ownsRow w0.heap.size 5 1 (.slice p n cap) n xs → Calls Tryz.cx.P f args.toArray w fun e w' => ∃ v', e = .returned v' ∧ w'.ownsRow w0.heap.size 5 1 v' (n + m) (xs ++ bs) ∧ RowKit.Below w0.heap.size w w' ∧ Lib.OthersKept 5 none w w')
    (hk : ∀ p' cap', (∃ g, p' = some ⟨g, 0, none⟩) → K (.slice p' (n + m) cap') (.vec p' (n + m) cap' 5 1 (xs ++ bs) :: r)) : VCall Tryz.cx.P w0 [] H f args K := by
  refine .mk fun w hw => ?_
  have hsat := hw.own _ hat.mem
  have hB : w.ownsRow w0.heap.size 5 1 (.slice p n cap) n xs := by
    obtain ⟨h1, h2⟩ := hsat
    refine ⟨h1, ?_⟩
    rcases h2 with h2 | ⟨g, c, cur, hv, h3, h4⟩
    · exact .inl h2
    · refine .inr ⟨g, c, cur, hv, ?_, h4⟩
      simp only [Value.slice.injEq] at hv
      have hmem : g ∈ ids H := by
        have := hat.mem
        unfold ids
        rw [List.mem_filterMap]
        exact ⟨_, this, by rw [hv.1]; rfl⟩
      rcases hw.from_ g hmem with h | h
      · simp at h
      · exact h
  refine (hc w hw hB).mono fun e w' ⟨v', he, hown, hbel, hkept⟩ => ?_
  obtain ⟨g1, g2⟩ := hown
  rcases g2 with ⟨_, g3⟩ | ⟨g, c, cur, hv, hg0, hg, hc1, hc2, hc3, hc4⟩
  · omega
  subst hv
  refine ⟨_, _, he, ?_, hk (some ⟨g, 0, none⟩) c ⟨g, rfl⟩⟩
  have hids : ∀ b ∈ ids r, b ∈ ids H := fun b hb => by
    have hp := hat.perm
    unfold ids at hb ⊢
    rw [List.mem_filterMap] at hb ⊢
    obtain ⟨x, hx, hxb⟩ := hb
    exact ⟨x, hp.mem_iff.2 (List.mem_cons_of_mem _ hx), hxb⟩
  have hrm : ∀ x ∈ r, x ∈ H := fun x hx => hat.perm.mem_iff.2 (List.mem_cons_of_mem _ hx)
  have hkeepx : ∀ x ∈ r, ∀ b, x.id = some b → w'.heap[b]? = w.heap[b]? ∧ ∃ o, w'.heap[b]? = some o ∧ ∀ c fz, o ≠ .cells c 5 fz := fun x hx b hb => by
    obtain ⟨o, ho, hno⟩ := notB8_obj (hw.own x (hrm x hx)) (hoth x hx) b hb
    have := hkept b o ho (by simp) hno
    exact ⟨by rw [this, ho], o, this, hno⟩
  refine ⟨hbel.os.trans hw.os, hbel.tape.trans hw.tape, hbel.output.trans hw.output, Nat.le_trans hw.size hbel.size, fun b hb hM => (hbel.block b hb).trans (hw.old b hb hM), ?_, ?_, ?_⟩
  · intro x hx
    rcases List.mem_cons.1 hx with rfl | hx
    · exact ⟨g1, .inr ⟨g, c, cur, rfl, Nat.zero_le _, hg, hc1, hc2, hc3, hc4⟩⟩
    · exact Ent.keep (hw.own x (hrm x hx)) fun b hb => (hkeepx x hx b hb).1
  · intro b hb
    rw [ids_cons] at hb
    rcases List.mem_append.1 hb with hb | hb
    · simp only [Ent.id, Option.map_some, Option.mem_toList, Option.mem_def, Option.some.injEq] at hb
      subst hb
      exact .inr hg0
    · exact hw.from_ b (hids b hb)
  · rw [ids_cons]
    have hnd : (ids r).Nodup := by
      have h1 := (hw.perm hat.perm).nodup
      rw [ids_cons] at h1
      exact (List.nodup_append.1 h1).2.1
    refine List.nodup_append.2 ⟨by cases hid : (Ent.vec (some ⟨g, 0, none⟩) (n + m) c 5 1 (xs ++ bs)).id <;> simp, hnd, fun a ha b hb hab => ?_⟩
    subst hab
    simp only [Ent.id, Option.map_some, Option.mem_toList, Option.mem_def, Option.some.injEq] at ha
    subst ha
    unfold ids at hb
    rw [List.mem_filterMap] at hb
    obtain ⟨x, hx, hxb⟩ := hb
    obtain ⟨_, o, ho, hno⟩ := hkeepx x hx _ hxb
    rw [hg] at ho
    cases ho
    exact hno _ _ rfl

theorem appInt_call {w0 : World} {H r : HP} {u : Ent → HP} {K : Value → HP → Prop} (p : Option Addr) (n cap : Nat) (xs : List Value) (hat : At H (.vec p n cap 5 1 xs) u r) (i : Int) (hi : I64 i) (hlim : n ≤ 100000000) (htab : PowTab w0) (hoth : ∀ x ∈ r, notB8 x)
    (hk : ∀ p' cap', (∃ g, p' = some ⟨g, 0, none⟩) → K (.slice p' (n + (Lib.itoa i).length) cap') (.vec p' (n + (Lib.itoa i).length) cap' 5 1 (xs ++ Lib.byteCells (Lib.itoa i)) :: r)) :
    VCall Tryz.cx.P w0 [] H 172 [.slice p n cap, .int .i64 i, .int .i64 10] K :=
  bytes_call p n cap xs hat (Lib.itoa i).length (Lib.byteCells (Lib.itoa i)) (by have := itoa_pos i; omega) hoth
    (fun w hw hB => Tryz.internal_strconv_AppendInt_10 w0.heap.size n i hi.1 hi.2 (.slice p n cap) xs w hB hw.size (by omega) ((Lib.tabBelow_of_tabIs htab).on hw.below)) hk

def boolB (b : Bool) : List UInt8 := if b then [116, 114, 117, 101] else [102, 97, 108, 115, 101]

end Go.Proofs

section

namespace Go.Proofs

open Go Go.Vx Go.Gm Go.RowKit Go.Lib Go.Shelf

set_option maxRecDepth 100000 in
theorem appBool_true (B n : Nat) (sv : Value) (xs : List Value) (w : World) (hown : w.ownsRow B 5 1 sv n xs) (hBw : B ≤ w.heap.size) (hlim : n ≤ 100000000) :
    Calls Tryz.prog 173 #[sv, .bool true] w fun e w' => ∃ v', e = .returned v' ∧ w'.ownsRow B 5 1 v' (n + 4) (xs ++ Lib.byteCells (boolB true)) ∧ Below B w w' ∧ OthersKept 5 none w w' := by
  obtain ⟨i0, hi, hz0, hz1, hz2⟩ := info_parts Tryz.laysM249.i5
  have hsz : "true".toUTF8.size = 4 := by decide
  have hcs : strCells "true".toUTF8 = Lib.byteCells (boolB true) := by kernel_rfl
  go_enter Tryz.func173, Tryz.ntmps173
  go_wp2_with (at_builtin; refine wpList_append_own_string _ rfl _ _ 58 9 rfl B 5 i0 Tryz.underlying58 Tryz.underlying9 hi hz0 hz1 hz2 _ _ _ rfl hown "true".toUTF8 (by rfl) (by unfold maxLen; omega) (by omega) hBw fun v' w' h1 h2 h3 => ?_)
  go_ret
  rw [hsz, hcs] at h1
  exact ⟨_, rfl, h1, (Below.refl B w).grown h2 hBw (fun k hk => (hown.lt k hk).1), (OthersKept.refl _ _ w).grown h2 (ownsRow_kind hown)⟩

set_option maxRecDepth 100000 in
theorem appBool_false (B n : Nat) (sv : Value) (xs : List Value) (w : World) (hown : w.ownsRow B 5 1 sv n xs) (hBw : B ≤ w.heap.size) (hlim : n ≤ 100000000) :
    Calls Tryz.prog 173 #[sv, .bool false] w fun e w' => ∃ v', e = .returned v' ∧ w'.ownsRow B 5 1 v' (n + 5) (xs ++ Lib.byteCells (boolB false)) ∧ Below B w w' ∧ OthersKept 5 none w w' := by
  obtain ⟨i0, hi, hz0, hz1, hz2⟩ := info_parts Tryz.laysM249.i5
  have hsz : "false".toUTF8.size = 5 := by decide
  have hcs : strCells "false".toUTF8 = Lib.byteCells (boolB false) := by kernel_rfl
  go_enter Tryz.func173, Tryz.ntmps173
  go_wp2_with (at_builtin; refine wpList_append_own_string _ rfl _ _ 58 9 rfl B 5 i0 Tryz.underlying58 Tryz.underlying9 hi hz0 hz1 hz2 _ _ _ rfl hown "false".toUTF8 (by rfl) (by unfold maxLen; omega) (by omega) hBw fun v' w' h1 h2 h3 => ?_)
  go_ret
  rw [hsz, hcs] at h1
  exact ⟨_, rfl, h1, (Below.refl B w).grown h2 hBw (fun k hk => (hown.lt k hk).1), (OthersKept.refl _ _ w).grown h2 (ownsRow_kind hown)⟩

end Go.Proofs

end

namespace Go.Proofs

open Go Go.Vx Go.Gm

theorem appBool_call {w0 : World} {H r : HP} {u : Ent → HP} {K : Value → HP → Prop} (p : Option Addr) (n cap : Nat) (xs : List Value) (hat : At H (.vec p n cap 5 1 xs) u r) (b : Bool) (hlim : n ≤ 100000000) (hoth : ∀ x ∈ r, notB8 x)
    (hk : ∀ p' cap', (∃ g, p' = some ⟨g, 0, none⟩) → K (.slice p' (n + (boolB b).length) cap') (.vec p' (n + (boolB b).length) cap' 5 1 (xs ++ Lib.byteCells (boolB b)) :: r)) :
    VCall Tryz.cx.P w0 [] H 173 [.slice p n cap, .bool b] K := by
  cases b with
  | true => exact bytes_call p n cap xs hat 4 (Lib.byteCells (boolB true)) (by omega) hoth (fun w hw hB => appBool_true w0.heap.size n _ xs w hB hw.size hlim) hk
  | false => exact bytes_call p n cap xs hat 5 (Lib.byteCells (boolB false)) (by omega) hoth (fun w hw hB => appBool_false w0.heap.size n _ xs w hB hw.size hlim) hk

end Go.Proofs
