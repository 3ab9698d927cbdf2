import Derived.Test.YtephkjicokbckaaGreatDoorVerifyKnownAi
import Derived.Test.YtephkjicokbckaaGreatDoorVerifyKnownEa
import Derived.Test.YtephkjicokbckaaGreatDoorVerifyKnownImg
import Derived.Test.YtephkjicokbckaaGreatDoorVerifyKnownTo2
import Derived.Lib.ItoaLen
set_option linter.unusedVariables false

set_option linter.unusedSimpArgs false

namespace Go.Proofs

open Go Go.Vx Go.Gm

def numB (v : Int) : List UInt8 := Lib.itoa v ++ [32]

def keyB (sts : List Sta) (due : List Int) (shown : List Bool) (left : Int) : List UInt8 :=
  sts.flatMap (fun s => numB s.v ++ numB s.rest) ++ due.flatMap numB ++ shown.flatMap boolB ++ numB left

theorem byteCells_app (a b : List UInt8) : Lib.byteCells (a ++ b) = Lib.byteCells a ++ Lib.byteCells b := List.map_append ..

theorem numB_len (v : Int) (h : I64 v) : (numB v).length ≤ 22 := by
  unfold numB
  have := Lib.itoa_length_le v h.1 h.2
  rw [List.length_append, List.length_singleton]
  omega

theorem boolB_len (b : Bool) : (boolB b).length ≤ 5 := by cases b <;> decide

theorem byteCells_len (l : List UInt8) : (Lib.byteCells l).length = l.length := List.length_map ..

theorem nb_nil : ∀ x ∈ ([] : HP), notB8 x := by simp

theorem nb_cons {x : Ent} {H : HP} (h : notB8 x) (hr : ∀ y ∈ H, notB8 y) : ∀ y ∈ x :: H, notB8 y := fun y hy => by
  rcases List.mem_cons.1 hy with rfl | hy
  · exact h
  · exact hr y hy

theorem nb_row {b e : Nat} {cs : List Value} {H : HP} (h : Nat.beq e 5 = false) (hr : ∀ y ∈ H, notB8 y) : ∀ y ∈ Ent.row b e cs :: H, notB8 y :=
  nb_cons (show e ≠ 5 from fun he => by subst he; cases h) hr

theorem nb_vec {p : Option Addr} {n c e s : Nat} {cs : List Value} {H : HP} (h : Nat.beq e 5 = false) (hr : ∀ y ∈ H, notB8 y) : ∀ y ∈ Ent.vec p n c e s cs :: H, notB8 y :=
  nb_cons (show e ≠ 5 from fun he => by subst he; cases h) hr

theorem nb_app {A H : HP} (h : ∀ y ∈ A, notB8 y) (hr : ∀ y ∈ H, notB8 y) : ∀ y ∈ A ++ H, notB8 y := fun y hy => by
  rcases List.mem_append.1 hy with hy | hy
  · exact h y hy
  · exact hr y hy

theorem nb_rows (D : List DRow) : ∀ y ∈ D.map drowE, notB8 y := fun y hy => by
  obtain ⟨d, _, rfl⟩ := List.mem_map.1 hy
  show (3 : Nat) ≠ 5
  decide

theorem _root_.Go.Vx.VCall.weak {P : Program} {w0 : World} {M : List Nat} {H H' : HP} {f : Nat} {args : List Value} {K : Value → HP → Prop} (hl : HLe H' H) (h : VCall P w0 M H' f args K) : VCall P w0 M H f args K := by
  cases h with
  | mk h => exact .mk fun w hw => h w (hw.le hl)

theorem appInt_call2 {w0 : World} {H r r2 : HP} {u u2 : Ent → HP} {K : Value → HP → Prop} (p : Option Addr) (n cap : Nat) (xs : List Value) (hat : At H (.vec p n cap 5 1 xs) u r) (g : Option Addr) (hg : At r (.vec g 1 1 5 1 [.int .u8 32]) u2 r2) (i : Int) (hi : I64 i) (hlim : n ≤ 100000000) (htab : PowTab w0) (hoth : ∀ x ∈ r2, notB8 x)
    (hk : ∀ p' cap', (∃ g, p' = some ⟨g, 0, none⟩) → K (.slice p' (n + (Lib.itoa i).length) cap') (.vec p' (n + (Lib.itoa i).length) cap' 5 1 (xs ++ Lib.byteCells (Lib.itoa i)) :: r2)) :
    VCall Tryz.cx.P w0 [] H 172 [.slice p n cap, .int .i64 i, .int .i64 10] K :=
  VCall.weak (H' := .vec p n cap 5 1 xs :: r2) (HLe.cons hat (HLe.of_perm (C := [.vec g 1 1 5 1 [.int .u8 32]]) (hg.perm.trans (List.perm_append_comm (l₁ := [_]))))) (appInt_call p n cap xs .here i hi hlim htab hoth hk)

structure NodeM where
  b : Nat
  sim : SimM
  left : Int
  shown : SlD Bool
  from_ : Value
  now : Value

def boolV (b : Bool) : List Value := [.bool b]

def nodeC (x : NodeM) : List Value := [.pointer (some ⟨x.sim.b, 0, none⟩), .int .i64 x.left, .slice x.shown.p x.shown.l.length x.shown.c, x.from_, x.now]

structure NodeRd (w : World) (x : NodeM) : Prop where
  cells : Cells w x.b 0 (nodeC x)
  sim : SimRd w x.sim
  run : SimRun x.sim
  due64 : ∀ d ∈ x.sim.D, ∀ v ∈ d.l, I64 v
  shown : ∃ b o, Sl w boolV 1 x.shown.l x.shown.p x.shown.l.length b o
  few : x.shown.l.length ≤ 1000
  left : I64 x.left

theorem SimRd.keep {w w' : World} {H : HP} {x : SimM} (h : SimRd w x) (hs : St w [] H w') : SimRd w' x :=
  ⟨h.cells.keep hs (by simp), h.st.keep hs (by simp), fun d hd => (h.due d hd).keep hs (by simp)⟩

theorem flatMap_take {α β : Type} {f : α → List β} {l : List α} {k : Nat} {x : α} (h : l[k]? = some x) : (l.take (k + 1)).flatMap f = (l.take k).flatMap f ++ f x := by
  rw [List.take_add_one, h, Option.toList_some, List.flatMap_append]
  simp

def toSl (d : DRow) : SlD Int := ⟨some ⟨d.g, 0, none⟩, d.cap, d.l⟩

theorem concatD_any (D : List DRow) (hn : D.length ≤ 1000) (X : List Int) (hX : (D.map (·.l)).flatten = X) (hXl : X.length ≤ 1000000) (p : Option Addr) (c b o : Nat) (w : World) (hc : Sl w drowVs 1 D p D.length b o) (hs : ∀ d ∈ D, Sl w intV 1 d.l (some ⟨d.g, 0, none⟩) d.l.length d.g 0) :
    Calls Tryz.prog 119 #[.slice p D.length c] w fun e w' => ∃ y : Option Addr × Nat, e = .returned (.slice y.1 X.length y.2) ∧ (0 < X.length → ∃ g, y.1 = some ⟨g, 0, none⟩) ∧ St w [] [.vec y.1 X.length y.2 3 1 (flat intV X)] w' := by
  have hcat : cat (D.map toSl) = X := by
    rw [← hX]
    unfold cat
    rw [List.flatMap_map, List.flatten_eq_flatMap, List.flatMap_map]
    rfl
  have hsl : (D.map toSl).length = D.length := List.length_map ..
  have h := concatInt_any (D.map toSl) (by omega) (by rw [hcat]; omega) p c b o w (by rw [hsl]; exact Sl.thr hc toSl (fun _ _ => rfl)) (fun d hd => by
    obtain ⟨e, he, rfl⟩ := List.mem_map.1 hd
    exact ⟨e.g, 0, hs e he⟩)
  rw [hsl, hcat] at h
  exact h

theorem str_push : ∀ (L : List UInt8) (r : ByteArray), (L.map fun b => (b.toNat : Int)).foldl (fun r n => r.push (UInt8.ofNat n.toNat)) r = ⟨(r.data.toList ++ L).toArray⟩
  | [], r => by simp
  | b :: L, r => by
    rw [List.map_cons, List.foldl_cons, str_push L]
    have : UInt8.ofNat ((b.toNat : Int)).toNat = b := by simp
    rw [this]
    simp [ByteArray.push]

theorem str_bytes (L : List UInt8) : (L.map fun b => (b.toNat : Int)).foldl (fun r n => r.push (UInt8.ofNat n.toNat)) ByteArray.empty = ⟨L.toArray⟩ := by
  rw [str_push]; rfl

theorem byteCells_map (L : List UInt8) : Lib.byteCells L = (L.map fun b => (b.toNat : Int)).map (Value.int .u8) := by
  unfold Lib.byteCells
  rw [List.map_map]; rfl

theorem flatMap_bound {α : Type} {f : α → List UInt8} {B : Nat} : ∀ {l : List α}, (∀ x ∈ l, (f x).length ≤ B) → (l.flatMap f).length ≤ B * l.length
  | [], _ => by simp
  | x :: l, h => by
    rw [List.flatMap_cons, List.length_append, List.length_cons, Nat.mul_add]
    have h1 := h x List.mem_cons_self
    have h2 := flatMap_bound (f := f) (l := l) fun y hy => h y (List.mem_cons_of_mem _ hy)
    omega

theorem key_any (x : NodeM) (w : World) (hx : NodeRd w x) (htab : PowTab w) :
    Calls Tryz.prog 62 #[.pointer (some ⟨x.b, 0, none⟩)] w fun e w' => e = .returned (.string ⟨(keyB x.sim.sts (rot x.sim.tick (x.sim.D.map (·.l))).flatten x.shown.l x.left).toArray⟩) ∧ St w [] [] w' := by
  obtain ⟨hc, hsim, hrun, hd64, ⟨bs, os, hsh⟩, hfew, hleft⟩ := hx
  obtain ⟨cs, hcs⟩ : ∃ cs, nodeC x = cs := ⟨_, rfl⟩
  have c0 : sub cs 0 1 = some [.pointer (some ⟨x.sim.b, 0, none⟩)] := by rw [← hcs]; rfl
  have c1 : sub cs 1 1 = some [.int .i64 x.left] := by rw [← hcs]; rfl
  have c2 : sub cs 2 1 = some [.slice x.shown.p x.shown.l.length x.shown.c] := by rw [← hcs]; rfl
  rw [hcs] at hc
  refine enter (C := Tryz.cx) (F := Tryz.fx62) (args := [_]) Tryz.func62 rfl rfl rfl Tryz.ok62 (St.start w []) ?_
  repeat' (conv => whnf); first | (refine VNew.mk fun b5 => ?_) | (refine VLd.is ?_; refine VLd.mk (Rd.cast (.old (hc.part c0) rfl (by simp)) (by first | omega | (dsimp only; omega) | rfl)) ?_) | (refine VCall.isF 130 ?_; (refine VCall.genR (fun w' hw' => Image_any x.sim hrun w' (hsim.keep hw')) ?_; rintro y ⟨hy1, hy2, hy3⟩)) | (refine VSeq.is ?_; refine VSeq.isA 3 rfl ?_; refine VSeq.learn (fun w hw => And.intro (vec_facts (hw (.vec y.sp y.sts.length y.sc 194 2 (flat staV y.sts)) (by simp [imgH]))) (vec_facts (hw (.vec y.dp y.D.length y.dc 26 1 (flat drowVs y.D)) (by simp [imgH])))) (fun hfc => ?_)) | (refine VSeq.go ?_) | (refine VLd.is ?_; refine VLd.mk (.row aT (by rfl)) ?_) | (refine VSt.is ?_; refine VSt.row aT (by rfl) (by first | rfl | assumption) ?_)
  all_goals (conv => whnf)
  rename_i b3
  have hpos := hrun.ok.net.some
  have hfewN := hrun.ok.net.few
  have hstl := hrun.ok.sts
  obtain ⟨S, hS⟩ : ∃ S, x.sim.sts = S := ⟨_, rfl⟩
  have hSl : S.length ≤ 1024 := by rw [← hS]; omega
  have hS64 : ∀ s ∈ S, I64 s.v ∧ I64 s.rest := by
    intro s hs
    rw [← hS] at hs
    obtain ⟨k, hk⟩ := List.getElem?_of_mem hs
    have hlt := (List.getElem?_eq_some_iff.1 hk).1
    obtain ⟨q, hq⟩ : ∃ q, x.sim.N.ps[k]? = some q := ⟨x.sim.N.ps[k]'(by omega), List.getElem?_eq_getElem _⟩
    have h1 := hrun.sta k q s hq hk
    have h2 := hrun.ok.net.ps q (List.mem_of_getElem? hq)
    have h3 := h2.fl
    have h4 := h2.rest
    unfold staOk at h1
    unfold I64
    omega
  obtain ⟨ysp, ysc, ydp, ydc, YD, hyy⟩ : ∃ a b c d e, y = ⟨x.sim.tick, a, b, S, c, d, e⟩ := by
    obtain ⟨t1, a, b, s1, c, d, e⟩ := y
    dsimp only at hy1 hy2
    exact ⟨a, b, c, d, e, by rw [hy1, hy2, hS]⟩
  subst hyy
  dsimp only at hy1 hy2 hy3 hfc ⊢
  obtain ⟨hfs, hfd⟩ := hfc
  unfold imgH
  dsimp only
  have hnum : ∀ k, ((S.take k).flatMap fun s => numB s.v ++ numB s.rest).length ≤ 44 * k := by
    intro k
    induction k with
    | zero => simp
    | succ k ih =>
      rcases Nat.lt_or_ge k S.length with h | h
      · obtain ⟨s, hs⟩ : ∃ s, S[k]? = some s := ⟨S[k], List.getElem?_eq_getElem _⟩
        have h64 := hS64 s (List.mem_of_getElem? hs)
        have h1 := numB_len s.v h64.1
        have h2 := numB_len s.rest h64.2
        rw [flatMap_take hs, List.length_append, List.length_append]
        omega
      · rw [List.take_of_length_le (by omega)]
        rw [List.take_of_length_le h] at ih
        omega
  refine VLoop.mk (α := Nat × Option Addr × Nat) (fun z => z.1 ≤ S.length)
    (fun z => [(1000000, .tuple #[]), (0, .pointer (some ⟨x.b, 0, none⟩)), (2, .string ⟨#[]⟩), (3, .pointer (some ⟨b3, 0, none⟩)), (5, .pointer (some ⟨b5, 0, none⟩)), (6, .func (.func 131) #[] #[.pointer (some ⟨b5, 0, none⟩)]), (23, .slice ysp S.length ysc), (24, .int .i64 (S.length : Int)), (25, .int .i64 (z.1 : Int))])
    (fun z => .row b5 58 [.slice z.2.1 ((S.take z.1).flatMap fun s => numB s.v ++ numB s.rest).length z.2.2] :: .vec z.2.1 ((S.take z.1).flatMap fun s => numB s.v ++ numB s.rest).length z.2.2 5 1 (Lib.byteCells ((S.take z.1).flatMap fun s => numB s.v ++ numB s.rest)) ::
      .row b3 198 [.int .i64 (x.sim.tick : Int), .slice ysp S.length ysc, .slice ydp YD.length ydc] :: .vec ysp S.length ysc 194 2 (flat staV S) :: .vec ydp YD.length ydc 26 1 (flat drowVs YD) :: YD.map drowE)
    (fun z => S.length - z.1) (0, none, 0) (by dsimp only; omega) aE ?_ ?_
  · refine HLe.cons aT ?_
    refine HLe.nilv ?_
    exact aH
  rintro ⟨k, p, cap⟩ hk
  dsimp only at hk ⊢
  have hnk := hnum k
  rcases Nat.lt_or_ge k S.length with hlt | hge
  · obtain ⟨s, hs⟩ : ∃ s, S[k]? = some s := ⟨S[k], List.getElem?_eq_getElem _⟩
    obtain ⟨hIa, hIb⟩ := hS64 s (List.mem_of_getElem? hs)
    have hla := Lib.itoa_length_le s.v hIa.1 hIa.2
    have hlb := Lib.itoa_length_le s.rest hIb.1 hIb.2
    have hst := flatMap_take (f := fun s : Sta => numB s.v ++ numB s.rest) hs
    obtain ⟨L, hL⟩ : ∃ L, ((S.take k).flatMap fun s => numB s.v ++ numB s.rest) = L := ⟨_, rfl⟩
    rw [hL] at hst hnk ⊢
    obtain ⟨gs, rfl⟩ := hfs.2.1 (by omega)
    repeat' (conv => whnf); first | (refine VIx.is ?_; refine VIx.mk rfl (by omega) (by omega) ?_) | (refine VLd.is ?_; refine VLd.mk (Rd.cast (.vec aT (sub_flat0 (f := staV) (k := 2) (fun _ => rfl) hs rfl)) (by first | omega | (dsimp only; omega) | rfl)) ?_) | (refine VCall.isF 131 ?_; refine VCall.inl (F := Tryz.fx131) Tryz.func131 rfl rfl rfl Tryz.ok131 ?_) | (refine VCall.isF 132 ?_; refine VCall.inl (F := Tryz.fx132) Tryz.func132 rfl rfl rfl Tryz.ok132 ?_) | (refine VCall.isF 172 ?_; (first | refine appInt_call _ _ _ _ aT _ (by first | exact hIa | exact hIb) (by omega) htab (by (repeat' (first | exact nb_nil | exact nb_rows _ | refine nb_app ?_ ?_ | refine nb_row rfl ?_ | refine nb_vec rfl ?_)); first | done | fail) fun p' cap' hp' => ?_ | refine appInt_call2 _ _ _ _ aT _ aT _ (by first | exact hIa | exact hIb) (by omega) htab (by (repeat' (first | exact nb_nil | exact nb_rows _ | refine nb_app ?_ ?_ | refine nb_row rfl ?_ | refine nb_vec rfl ?_)); first | done | fail) fun p' cap' hp' => ?_)) | (refine VAp.is ?_; refine VAp.own aT (.at_ (.vec aT rfl)) (by simp [Value.oneCell']) (by (try dsimp only); omega) (by simp only [maxLen]; omega) fun p' cap' hp' => ?_) | (refine VSeq.go ?_) | (refine VB.is ?_; refine VB.yes (by omega) fun _ => ?_) | (refine VLd.is ?_; refine VLd.mk (.row aT (by rfl)) ?_) | (refine VSt.is ?_; refine VSt.row aT (by rfl) (by first | rfl | assumption) ?_) | (refine VNew.mk fun _ => ?_) | (refine VAr.is ?_; refine oA ?_)
    all_goals (conv => whnf)
    refine VNext.mk (k + 1, p', cap') (by dsimp only; omega) (by dsimp only; omega) aE ?_
    have e1 : (L ++ (numB s.v ++ numB s.rest)).length = L.length + (Lib.itoa s.v).length + 1 + (Lib.itoa s.rest).length + 1 := by simp [numB]; omega
    have e2 : Lib.byteCells (L ++ (numB s.v ++ numB s.rest)) = Lib.byteCells L ++ Lib.byteCells (Lib.itoa s.v) ++ [.int .u8 32] ++ Lib.byteCells (Lib.itoa s.rest) ++ [.int .u8 32] := by
      unfold numB
      simp only [byteCells_app, List.append_assoc]; rfl
    dsimp only
    rw [hst, e1, e2]
    exact aH
  have hkS : k = S.length := by omega
  subst hkS
  rw [List.take_length] at hnk ⊢
  obtain ⟨L0, hL0⟩ : ∃ L, (S.flatMap fun s => numB s.v ++ numB s.rest) = L := ⟨_, rfl⟩
  rw [hL0] at hnk ⊢
  have hYl : YD.length = 16 := by
    have := congrArg List.length hy3
    rw [List.length_map, rot_length] at this
    exact this
  obtain ⟨X, hX⟩ : ∃ X, (rot x.sim.tick (x.sim.D.map (·.l))).flatten = X := ⟨_, rfl⟩
  have hrotm : ∀ l ∈ rot x.sim.tick (x.sim.D.map (·.l)), l.length ≤ 1024 ∧ ∀ v ∈ l, I64 v := by
    intro l hl
    unfold rot at hl
    obtain ⟨i, _, rfl⟩ := List.mem_map.1 hl
    rw [List.getElem?_map]
    cases hd : x.sim.D[(x.sim.tick + i) % 16]? with
    | none => simp
    | some d =>
      have hm := List.mem_of_getElem? hd
      simp only [Option.map_some, Option.getD_some]
      exact ⟨by rw [hrun.ok.cells d hm]; omega, hd64 d hm⟩
  have hXl : X.length ≤ 16384 := by
    rw [← hX]
    have hlen : (rot x.sim.tick (x.sim.D.map (·.l))).length = 16 := rot_length _ _
    have : ∀ (R : List (List Int)), (∀ l ∈ R, l.length ≤ 1024 ∧ ∀ v ∈ l, I64 v) → R.flatten.length ≤ 1024 * R.length := by
      intro R
      induction R with
      | nil => simp
      | cons l R ih =>
        intro h
        have h1 := (h l List.mem_cons_self).1
        have h2 := ih fun m hm => h m (List.mem_cons_of_mem _ hm)
        rw [List.flatten_cons, List.length_append, List.length_cons, Nat.mul_add]
        omega
    have h := this _ hrotm
    rw [hlen] at h
    exact h
  have hX64 : ∀ v ∈ X, I64 v := by
    intro v hv
    rw [← hX] at hv
    obtain ⟨l, hl, hvl⟩ := List.mem_flatten.1 hv
    exact (hrotm l hl).2 v hvl
  have hYX : (YD.map (·.l)).flatten = X := by rw [hy3, hX]
  repeat' (conv => whnf); first | (refine VCall.isF 119 ?_; (refine VCall.genR (fun w' hw' => Exists.elim (Sl.own (f := drowVs) (l := YD) (cap := ydc) (e := 26) (p := ydp) (k := 1) hw' aT (fun _ => rfl) rfl) fun b1 hb1 => concatD_any YD (by omega) X hYX (by omega) ydp ydc b1 0 w' hb1 (fun d hd => Sl.own' (f := intV) (cap := d.cap) (e := 3) hw' (by show drowE d ∈ _; simp [List.mem_map_of_mem hd]) (fun _ => rfl) rfl)) ?_; rintro ⟨q, cq⟩ hq; dsimp only at hq ⊢)) | (refine VSeq.go ?_) | (refine VB.is ?_; refine VB.no (by omega) fun _ => ?_) | (refine VLd.is ?_; refine VLd.mk (.row aT (by rfl)) ?_)
  all_goals (conv => whnf)
  have hnumX : ∀ k, ((X.take k).flatMap numB).length ≤ 360448 := by
    intro k
    have h1 := flatMap_bound (f := numB) (B := 22) (l := X.take k) fun v hv => numB_len v (hX64 v (List.mem_of_mem_take hv))
    have h2 : (X.take k).length ≤ 16384 := by rw [List.length_take]; omega
    omega
  refine VLoop.mk (α := Nat × Option Addr × Nat) (fun z => z.1 ≤ X.length) (fun z => [(1000000, .tuple #[]), (0, .pointer (some ⟨x.b, 0, none⟩)), (2, .string ⟨#[]⟩), (5, .pointer (some ⟨b5, 0, none⟩)), (6, .func (.func 131) #[] #[.pointer (some ⟨b5, 0, none⟩)]), (40, .slice q X.length cq), (41, .int .i64 (X.length : Int)), (42, .int .i64 (z.1 : Int))])
    (fun z => .row b5 58 [.slice z.2.1 (L0 ++ (X.take z.1).flatMap numB).length z.2.2] :: .vec z.2.1 (L0 ++ (X.take z.1).flatMap numB).length z.2.2 5 1 (Lib.byteCells (L0 ++ (X.take z.1).flatMap numB)) :: [.vec q X.length cq 3 1 (flat intV X)]) (fun z => X.length - z.1) (0, p, cap) (by dsimp only; omega) aE ?_ ?_
  · dsimp only
    rw [List.take_zero, List.flatMap_nil, List.append_nil]
    exact aH
  rintro ⟨k, p, cap⟩ hk2
  dsimp only at hk2 ⊢
  have hnk2 := hnumX k
  rcases Nat.lt_or_ge k X.length with hlt2 | hge2
  · obtain ⟨v, hv⟩ : ∃ v, X[k]? = some v := ⟨X[k], List.getElem?_eq_getElem _⟩
    have hIa := hX64 v (List.mem_of_getElem? hv)
    have hIb := hIa
    have hla := Lib.itoa_length_le v hIa.1 hIa.2
    have hst := flatMap_take (f := numB) hv
    obtain ⟨gq, rfl⟩ := hq (by omega)
    obtain ⟨L, hL⟩ : ∃ L, L0 ++ (X.take k).flatMap numB = L := ⟨_, rfl⟩
    have hLl : L.length ≤ 500000 := by rw [← hL, List.length_append]; omega
    have hst2 : L0 ++ (X.take (k + 1)).flatMap numB = L ++ numB v := by rw [hst, ← List.append_assoc, hL]
    rw [hL]
    repeat' (conv => whnf); first | (refine VIx.is ?_; refine VIx.mk rfl (by omega) (by omega) ?_) | (refine VLd.is ?_; refine VLd.mk (Rd.cast (.vec aT (sub_flat0 (f := intV) (k := 1) (fun _ => rfl) hv rfl)) (by first | omega | (dsimp only; omega) | rfl)) ?_) | (refine VCall.isF 131 ?_; refine VCall.inl (F := Tryz.fx131) Tryz.func131 rfl rfl rfl Tryz.ok131 ?_) | (refine VCall.isF 132 ?_; refine VCall.inl (F := Tryz.fx132) Tryz.func132 rfl rfl rfl Tryz.ok132 ?_) | (refine VCall.isF 172 ?_; (first | refine appInt_call _ _ _ _ aT _ (by first | exact hIa | exact hIb) (by omega) htab (by (repeat' (first | exact nb_nil | exact nb_rows _ | refine nb_app ?_ ?_ | refine nb_row rfl ?_ | refine nb_vec rfl ?_)); first | done | fail) fun p' cap' hp' => ?_ | refine appInt_call2 _ _ _ _ aT _ aT _ (by first | exact hIa | exact hIb) (by omega) htab (by (repeat' (first | exact nb_nil | exact nb_rows _ | refine nb_app ?_ ?_ | refine nb_row rfl ?_ | refine nb_vec rfl ?_)); first | done | fail) fun p' cap' hp' => ?_)) | (refine VAp.is ?_; refine VAp.own aT (.at_ (.vec aT rfl)) (by simp [Value.oneCell']) (by (try dsimp only); omega) (by simp only [maxLen]; omega) fun p' cap' hp' => ?_) | (refine VSeq.go ?_) | (refine VB.is ?_; refine VB.yes (by omega) fun _ => ?_) | (refine VLd.is ?_; refine VLd.mk (.row aT (by rfl)) ?_) | (refine VSt.is ?_; refine VSt.row aT (by rfl) (by first | rfl | assumption) ?_) | (refine VNew.mk fun _ => ?_) | (refine VAr.is ?_; refine oA ?_)
    all_goals (conv => whnf)
    refine VNext.mk (k + 1, p', cap') (by dsimp only; omega) (by dsimp only; omega) aE ?_
    have e1 : (L ++ numB v).length = L.length + (Lib.itoa v).length + 1 := by simp [numB]; omega
    have e2 : Lib.byteCells (L ++ numB v) = Lib.byteCells L ++ Lib.byteCells (Lib.itoa v) ++ [.int .u8 32] := by
      unfold numB
      simp only [byteCells_app, List.append_assoc]; rfl
    dsimp only
    rw [hst2, e1, e2]
    exact aH
  have hkX : k = X.length := by omega
  subst hkX
  rw [List.take_length] at hnk2 ⊢
  obtain ⟨L1, hL1⟩ : ∃ L, L0 ++ X.flatMap numB = L := ⟨_, rfl⟩
  have hL1l : L1.length ≤ 500000 := by rw [← hL1, List.length_append]; omega
  rw [hL1]
  repeat' (conv => whnf); first | (refine VLd.is ?_; refine VLd.mk (Rd.cast (.old (hc.part c2) rfl (by simp)) (by first | omega | (dsimp only; omega) | rfl)) ?_) | (refine VSeq.go ?_) | (refine VB.is ?_; refine VB.no (by omega) fun _ => ?_)
  all_goals (conv => whnf)
  refine VLoop.mk (α := Nat × Option Addr × Nat) (fun z => z.1 ≤ x.shown.l.length) (fun z => [(1000000, .tuple #[]), (0, .pointer (some ⟨x.b, 0, none⟩)), (2, .string ⟨#[]⟩), (5, .pointer (some ⟨b5, 0, none⟩)), (6, .func (.func 131) #[] #[.pointer (some ⟨b5, 0, none⟩)]), (53, .slice x.shown.p x.shown.l.length x.shown.c), (54, .int .i64 (x.shown.l.length : Int)), (55, .int .i64 (z.1 : Int))])
    (fun z => .row b5 58 [.slice z.2.1 (L1 ++ (x.shown.l.take z.1).flatMap boolB).length z.2.2] :: .vec z.2.1 (L1 ++ (x.shown.l.take z.1).flatMap boolB).length z.2.2 5 1 (Lib.byteCells (L1 ++ (x.shown.l.take z.1).flatMap boolB)) :: []) (fun z => x.shown.l.length - z.1) (0, p, cap) (by dsimp only; omega) aE ?_ ?_
  · dsimp only
    rw [List.take_zero, List.flatMap_nil, List.append_nil]
    exact aH
  rintro ⟨k, p, cap⟩ hk3
  dsimp only at hk3 ⊢
  have hnk3 : ((x.shown.l.take k).flatMap boolB).length ≤ 5000 := by
    have h1 := flatMap_bound (f := boolB) (B := 5) (l := x.shown.l.take k) fun v _ => boolB_len v
    have h2 : (x.shown.l.take k).length ≤ 1000 := by rw [List.length_take]; omega
    omega
  rcases Nat.lt_or_ge k x.shown.l.length with hlt3 | hge3
  · obtain ⟨v, hv⟩ := hsh.get hlt3
    have hst := flatMap_take (f := boolB) hv
    obtain ⟨L, hL⟩ : ∃ L, L1 ++ (x.shown.l.take k).flatMap boolB = L := ⟨_, rfl⟩
    have hLl : L.length ≤ 600000 := by rw [← hL, List.length_append]; omega
    have hst2 : L1 ++ (x.shown.l.take (k + 1)).flatMap boolB = L ++ boolB v := by rw [hst, ← List.append_assoc, hL]
    rw [hL]
    repeat' (conv => whnf); first | (refine VIx.is ?_; refine VIx.mk (hsh.ptr (by omega)) (by omega) (by omega) ?_) | (refine VLd.is ?_; refine VLd.mk (Rd.cast (hsh.rd0 (by simp) (fun _ => rfl) hv rfl) (by first | omega | (dsimp only; omega) | rfl)) ?_) | (refine VCall.isF 133 ?_; refine VCall.inl (F := Tryz.fx133) Tryz.func133 rfl rfl rfl Tryz.ok133 ?_) | (refine VCall.isF 173 ?_; (refine appBool_call _ _ _ _ aT _ (by omega) (by (repeat' (first | exact nb_nil | exact nb_rows _ | refine nb_app ?_ ?_ | refine nb_row rfl ?_ | refine nb_vec rfl ?_)); first | done | fail) fun p' cap' hp' => ?_)) | (refine VSeq.go ?_) | (refine VB.is ?_; refine VB.yes (by omega) fun _ => ?_) | (refine VLd.is ?_; refine VLd.mk (.row aT (by rfl)) ?_) | (refine VSt.is ?_; refine VSt.row aT (by rfl) (by first | rfl | assumption) ?_) | (refine VAr.is ?_; refine oA ?_)
    all_goals (conv => whnf)
    refine VNext.mk (k + 1, p', cap') (by dsimp only; omega) (by dsimp only; omega) aE ?_
    dsimp only
    rw [hst2, List.length_append, byteCells_app]
    exact aH
  have hkB : k = x.shown.l.length := by omega
  subst hkB
  rw [List.take_length] at hnk3 ⊢
  obtain ⟨L2, hL2⟩ : ∃ L, L1 ++ x.shown.l.flatMap boolB = L := ⟨_, rfl⟩
  have hL2l : L2.length ≤ 600000 := by rw [← hL2, List.length_append]; omega
  rw [hL2]
  have hIa := hleft
  have hIb := hleft
  have hla := Lib.itoa_length_le x.left hIa.1 hIa.2
  have hend : keyB x.sim.sts X x.shown.l x.left = L2 ++ numB x.left := by
    unfold keyB
    rw [hS, hL0, hL1, hL2]
  rw [hX, hend]
  have e1 : (L2 ++ numB x.left).length = L2.length + (Lib.itoa x.left).length + 1 := by simp [numB]; omega
  have e2 : Lib.byteCells (L2 ++ numB x.left) = Lib.byteCells L2 ++ Lib.byteCells (Lib.itoa x.left) ++ [.int .u8 32] := by
    unfold numB
    simp only [byteCells_app, List.append_assoc]; rfl
  repeat' (conv => whnf); first | (refine VLd.is ?_; refine VLd.mk (Rd.cast (.old (hc.part c1) rfl (by simp)) (by first | omega | (dsimp only; omega) | rfl)) ?_) | (refine VCall.isF 131 ?_; refine VCall.inl (F := Tryz.fx131) Tryz.func131 rfl rfl rfl Tryz.ok131 ?_) | (refine VCall.isF 132 ?_; refine VCall.inl (F := Tryz.fx132) Tryz.func132 rfl rfl rfl Tryz.ok132 ?_) | (refine VCall.isF 172 ?_; (first | refine appInt_call _ _ _ _ aT _ (by first | exact hIa | exact hIb) (by omega) htab (by (repeat' (first | exact nb_nil | exact nb_rows _ | refine nb_app ?_ ?_ | refine nb_row rfl ?_ | refine nb_vec rfl ?_)); first | done | fail) fun p' cap' hp' => ?_ | refine appInt_call2 _ _ _ _ aT _ aT _ (by first | exact hIa | exact hIb) (by omega) htab (by (repeat' (first | exact nb_nil | exact nb_rows _ | refine nb_app ?_ ?_ | refine nb_row rfl ?_ | refine nb_vec rfl ?_)); first | done | fail) fun p' cap' hp' => ?_)) | (refine VAp.is ?_; refine VAp.own aT (.at_ (.vec aT rfl)) (by simp [Value.oneCell']) (by (try dsimp only); omega) (by simp only [maxLen]; omega) fun p' cap' hp' => ?_) | (refine VSeq.go ?_) | (refine VB.is ?_; refine VB.no (by omega) fun _ => ?_) | (refine VLd.is ?_; refine VLd.mk (.row aT (by rfl)) ?_) | (refine VSt.is ?_; refine VSt.row aT (by rfl) (by first | rfl | assumption) ?_) | (refine VNew.mk fun _ => ?_)
  all_goals (conv => whnf)
  obtain ⟨g, rfl⟩ := hp' (by omega)
  rw [← e2, ← e1]
  refine VBs.mk (ns := (L2 ++ numB x.left).map fun b => (b.toNat : Int)) Tryz.underlying9 (List.length_map ..) ⟨g, 0, rfl, .vec aT ?_⟩ ?_
  · rw [← byteCells_map, sub_mk _ _ _ (by rw [byteCells_len]; omega), List.drop_zero, List.take_of_length_le (by rw [byteCells_len]; exact Nat.le_refl _)]
  · rw [str_bytes]
    skip
    all_goals (conv => whnf)
    exact ⟨fun w' hw' => ⟨rfl, hw'.le .nil⟩⟩

end Go.Proofs
