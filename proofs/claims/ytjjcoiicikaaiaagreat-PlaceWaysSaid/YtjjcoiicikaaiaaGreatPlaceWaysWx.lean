import Derived.Test.YtjjcoiicikaaiaaGreatPlaceWaysWv
import Derived.Test.YtjjcoiicikaaiaaGreatPlaceWaysTb
set_option linter.unusedVariables false
set_option linter.unusedSimpArgs false
set_option maxHeartbeats 4000000

namespace Go.Gm

structure SrcE where
 T : Int → List Int
 W : Int
 home : Int → Int
 tg : Int → List Int

structure WvM where
 b : Nat
 bm : Nat
 m : List (Go.Value × Go.Value)
 ks : List Int

theorem fm_get {α β : Type} (f : α → List β) : ∀ {l : List α} {i : Nat} {x : α}, l[i]? = some x → (l.flatMap f).Perm (f x ++ (l.eraseIdx i).flatMap f)
 | [], i, x, h => by simp at h
 | y :: l, 0, x, h => by
  simp only [List.getElem?_cons_zero, Option.some.injEq] at h
  subst h
  rw [List.flatMap_cons, List.eraseIdx_cons_zero]
 | y :: l, i + 1, x, h => by
  simp only [List.getElem?_cons_succ] at h
  rw [List.flatMap_cons, List.eraseIdx_cons_succ, List.flatMap_cons]
  refine (List.Perm.append_left _ (fm_get f h)).trans ?_
  rw [← List.append_assoc, ← List.append_assoc]
  exact List.Perm.append_right _ List.perm_append_comm

theorem fm_set {α β : Type} (f : α → List β) {l : List α} {i : Nat} (h : i < l.length) (y : α) : ((l.set i y).flatMap f).Perm (f y ++ (l.eraseIdx i).flatMap f) := by
 have := fm_get f (l := l.set i y) (i := i) (x := y) (by rw [List.getElem?_set, if_pos rfl, if_pos h])
 rw [List.eraseIdx_set_eq] at this
 exact this

end Go.Gm

namespace Go.Proofs

open Go Go.Vx Go.Gm

def wvV (x : WvM) : List Value := [.pointer (some ⟨x.b, 0, none⟩)]

def wvE (E : SrcE) (x : WvM) : HP := [.row x.b 148 [.map (some x.bm), .int .i64 (mostM (x.ks.map E.T) : Int), .int .i64 (reachM E.W E.home E.tg x.ks : Int)], .mapk x.bm x.m]

def WvOk (E : SrcE) (x : WvM) : Prop := CntOf x.m (cntM (x.ks.map E.T))

theorem perm_take (a b c d x y : Ent) {F F' : HP} (S : HP) (h : F.Perm ([x, y] ++ F')) : (a :: b :: c :: d :: (F ++ S)).Perm (x :: y :: d :: a :: b :: c :: (F' ++ S)) := by
 have h1 : (F ++ S).Perm (x :: y :: (F' ++ S)) := List.Perm.append_right S h
 refine ((((h1.cons d).cons c).cons b).cons a).trans ?_
 have h2 : ([a, b, c] ++ ([d, x, y] ++ (F' ++ S))).Perm ([d, x, y] ++ ([a, b, c] ++ (F' ++ S))) := List.perm_append_comm_assoc ..
 refine h2.trans ?_
 have h3 : ([d] ++ ([x, y] ++ ([a, b, c] ++ (F' ++ S)))).Perm ([x, y] ++ ([d] ++ ([a, b, c] ++ (F' ++ S)))) := List.perm_append_comm_assoc ..
 exact h3

theorem HLe.ofPerm {A B : HP} (h : B.Perm A) : HLe A B := HLe.of_sub [] (by rw [List.append_nil]; exact h)

theorem waveIx_vc {w0 : World} {H : HP} {K : Value → HP → Prop} (E : SrcE) (C : Chp) (hroom : 1 ≤ C.mesh.room ∧ C.mesh.room ≤ 64) (pd : Option Addr) (cd : Nat) (ws : List WvM) (hws : ∀ x ∈ ws, WvOk E x ∧ x.ks.length ≤ 65536) (hwl : ws.length ≤ 65536) (pw : Option Addr) (hwp : 0 < ws.length → ∃ g, pw = some ⟨g, 0, none⟩) (cw bt bc go co : Nat) (t1 t2 t3 : Value) (hone : oneAll [t1, t2, t3] = true) (o : List Int) (key : Int) (hko : E.T key = o) (ho : OutsOk o) (hol : o.length ≤ 64) (S : HP)
  (hH : HLe (.vec pw ws.length cw 145 1 (flat wvV ws) :: .row bt 153 [t1, t2, t3, .slice (some ⟨go, 0, none⟩) o.length co] :: .row bc 26 (chpC C pd cd) :: .vec (some ⟨go, 0, none⟩) o.length co 3 1 (flat intV o) :: (ws.flatMap (wvE E) ++ S)) H)
  (hK : K (.int .i64 (if waveIx E.T C.mesh.room (ws.map (·.ks)) key < ws.length then (waveIx E.T C.mesh.room (ws.map (·.ks)) key : Int) else -1)) (.vec pw ws.length cw 145 1 (flat wvV ws) :: .row bt 153 [t1, t2, t3, .slice (some ⟨go, 0, none⟩) o.length co] :: .row bc 26 (chpC C pd cd) :: .vec (some ⟨go, 0, none⟩) o.length co 3 1 (flat intV o) :: (ws.flatMap (wvE E) ++ S))) :
  VCall Tryz.cx.P w0 [] H 75 [.slice pw ws.length cw, .func (.func 76) #[] #[.pointer (some ⟨bt, 0, none⟩), .pointer (some ⟨bc, 0, none⟩)]] K := by
 refine VCall.le hH ?_
 refine VCall.inl (F := Tryz.fx75) Tryz.func75 rfl rfl rfl Tryz.ok75 ?_
 repeat' (conv => whnf); first | (refine VSeq.go ?_) | (refine VB.is ?_; refine VB.no (by omega) fun _ => ?_)
 all_goals (conv => whnf)
 refine VLoop.mk (α := Nat) (fun i => i ≤ ws.length ∧ ∀ j, j < i → takesM C.mesh.room (((ws.map (·.ks))[j]?.getD []).map E.T) (E.T key) = false) (fun i => [(1000000, .tuple #[]), (0, .slice pw ws.length cw), (1, .func (.func 76) #[] #[.pointer (some ⟨bt, 0, none⟩), .pointer (some ⟨bc, 0, none⟩)]), (4, .int .i64 0), (7, .int .i64 (ws.length : Int)), (8, .int .i64 (i : Int))])
  (fun _ => .vec pw ws.length cw 145 1 (flat wvV ws) :: .row bt 153 [t1, t2, t3, .slice (some ⟨go, 0, none⟩) o.length co] :: .row bc 26 (chpC C pd cd) :: .vec (some ⟨go, 0, none⟩) o.length co 3 1 (flat intV o) :: (ws.flatMap (wvE E) ++ S)) (fun i => ws.length - i) 0 ⟨Nat.zero_le _, fun j hj => absurd hj (by omega)⟩ aE (HLe.refl _) ?_
 rintro i ⟨hi, hb⟩
 rcases Nat.lt_or_ge i ws.length with hlt | hge
 ·obtain ⟨x, hx⟩ : ∃ x, ws[i]? = some x := ⟨_, List.getElem?_eq_getElem hlt⟩
  have hxo := hws x (List.mem_of_getElem? hx)
  obtain ⟨g, rfl⟩ := hwp (by omega)
  have hks : (ws.map (·.ks))[i]?.getD [] = x.ks := by rw [List.getElem?_map, hx]; rfl
  have hpm := fm_get (wvE E) hx
  have hch : sub (chpC C pd cd) 2 1 = some [.int .i64 C.mesh.room] := rfl
  have hml : i ≤ (ws.map (·.ks)).length := by rw [List.length_map]; exact hi
  have hyes : takesM C.mesh.room (x.ks.map E.T) o = true → waveIx E.T C.mesh.room (ws.map (·.ks)) key = i := fun h => waveIx_spec hml hb (fun _ => by rw [hks, hko]; exact h)
  obtain ⟨tk, htk⟩ : ∃ tk, takesM C.mesh.room (x.ks.map E.T) o = tk := ⟨_, rfl⟩
  repeat' (conv => whnf); first | (refine VIx.is ?_; refine VIx.mk rfl (by omega) (by omega) ?_) | (refine VLd.is ?_; refine VLd.mk (Rd.cast (.vec aT (sub_flat0 (f := wvV) (k := 1) (fun _ => rfl) hx rfl)) (by first | omega | (dsimp only; omega) | rfl)) ?_) | (refine VLd.is ?_; refine VLd.mk (Rd.cast (.row aT (hch)) (by first | omega | (dsimp only; omega) | rfl)) ?_) | (refine VCall.isF 76 ?_; refine VCall.inl (F := Tryz.fx76) Tryz.func76 rfl rfl rfl Tryz.ok76 ?_) | (refine VCall.isF 77 ?_; (refine VCall.hle ?_; refine takes_vc (x.ks.map E.T) (by rw [List.length_map]; exact hxo.2) o ho hol t1 t2 t3 hone go co x.b x.bm _ _ x.m hxo.1 C.mesh.room (by omega) (.vec (some ⟨g, 0, none⟩) ws.length cw 145 1 (flat wvV ws) :: .row bt 153 [t1, t2, t3, .slice (some ⟨go, 0, none⟩) o.length co] :: .row bc 26 (chpC C pd cd) :: ((ws.eraseIdx i).flatMap (wvE E) ++ S)) (HLe.ofPerm (perm_take _ _ _ _ _ _ S hpm)) ⟨_, HLe.ofPerm (perm_take _ _ _ _ _ _ S hpm).symm, ?_⟩; rw [htk])) | (refine VSeq.go ?_) | (refine VB.is ?_; refine VB.yes (by omega) fun _ => ?_) | (refine boolE_split (fun h => ?_) (fun h => ?_) <;> subst h) | (refine VLd.is ?_; refine VLd.mk (.row aT (by rfl)) ?_) | (refine VAr.is ?_; refine oA ?_)
  all_goals (conv => whnf)
  ·rw [hyes htk, if_pos hlt] at hK
   exact hK
  ·refine VNext.mk (i + 1) ⟨by omega, fun j hj => ?_⟩ (by omega) aE (HLe.refl _)
   by_cases hji : j < i
   ·exact hb j hji
   ·have : j = i := by omega
    subst this
    rw [hks, hko]; exact htk
 have hil : i = ws.length := by omega
 subst hil
 have hno : waveIx E.T C.mesh.room (ws.map (·.ks)) key = ws.length := waveIx_spec (by rw [List.length_map]; exact Nat.le_refl _) hb (fun h => by rw [List.length_map] at h; exact absurd h (Nat.lt_irrefl _))
 rw [hno, if_neg (Nat.lt_irrefl _)] at hK
 repeat' (conv => whnf); first | (refine VSeq.go ?_) | (refine VB.is ?_; refine VB.no (by omega) fun _ => ?_)
 all_goals (conv => whnf)
 exact hK

theorem _root_.Go.Vx.VCall.takeS {P : Program} {w0 : World} {M : List Nat} {H S R : HP} {f : Nat} {args : List Value} {K : Value → HP → Prop} (htk : Take H S R) (h : VCall P w0 M (S ++ R) f args K) : VCall P w0 M H f args K := by
 obtain ⟨h⟩ := h
 exact .mk fun w hw => h w (hw.perm htk.perm)

theorem addW_vc {w0 : World} {H R : HP} {K : Value → HP → Prop} (E : SrcE) (s : Spc) (hs : s.wf) (hW : E.W = s.wide) (x : WvM) (hx : WvOk E x) (hlen : x.ks.length ≤ 65000) (hre : reachM E.W E.home E.tg x.ks ≤ 1000) (key : Int) (o : List Int) (hko : E.T key = o) (ho : OutsOk o) (hol : o.length ≤ 64) (t1 : Value) (hone : oneAll [t1] = true)
  (home : Int) (hkh : E.home key = home) (hhome : I64 home) (tg : List Int) (hkt : E.tg key = tg) (htg : ∀ t ∈ tg, I64 t ∧ (distR s home t) = ((distM s.wide home t : Int), 0) ∧ distM s.wide home t ≤ 1000) (htl : tg.length ≤ 65536) (gc cc go co : Nat)
  (hT : Take H (.row x.b 148 [.map (some x.bm), .int .i64 (mostM ((x.ks).map E.T) : Int), .int .i64 (reachM E.W E.home E.tg (x.ks) : Int)] :: .mapk x.bm x.m :: .vec (some ⟨go, 0, none⟩) o.length co 3 1 (flat intV o) :: .vec (some ⟨gc, 0, none⟩) tg.length cc 3 1 (flat intV tg) :: []) R)
  (hK : ∀ m', WvOk E ⟨x.b, x.bm, m', x.ks ++ [key]⟩ → K (.tuple #[]) (.row x.b 148 [.map (some x.bm), .int .i64 (mostM ((x.ks ++ [key]).map E.T) : Int), .int .i64 (reachM E.W E.home E.tg (x.ks ++ [key]) : Int)] :: .mapk x.bm m' :: .vec (some ⟨go, 0, none⟩) o.length co 3 1 (flat intV o) :: .vec (some ⟨gc, 0, none⟩) tg.length cc 3 1 (flat intV tg) :: R)) :
  VCall Tryz.cx.P w0 [] H 74 [.pointer (some ⟨x.b, 0, none⟩), .agg (spcC s).toArray, .agg #[t1, .int .i64 home, .slice (some ⟨gc, 0, none⟩) tg.length cc, .slice (some ⟨go, 0, none⟩) o.length co]] K := by
 refine VCall.takeS hT ?_
 refine add_vc s hs (x.ks.map E.T) (by rw [List.length_map]; omega) o ho hol t1 hone home hhome tg htg htl gc cc go co x.b x.bm (reachM E.W E.home E.tg x.ks) hre x.m hx R (HLe.refl _) fun m' hm' => ?_
 have e1 : (x.ks ++ [key]).map E.T = x.ks.map E.T ++ [o] := by rw [List.map_append, List.map_singleton, hko]
 have e2 : reachM E.W E.home E.tg (x.ks ++ [key]) = (tg.map fun t => distM s.wide home t).foldl max (reachM E.W E.home E.tg x.ks) := by rw [reachM_snoc, hkt, hkh, hW]
 have := hK m' (by unfold WvOk; dsimp only; rw [e1]; exact hm')
 rw [e1, e2] at this
 exact this

theorem take_wave {E : SrcE} {H : HP} {Z : HP → HP} {l : List WvM} {i : Nat} {x : WvM} (h : AtS H (l.flatMap (wvE E)) Z) (hx : l[i]? = some x) : HLe (.row x.b 148 [.map (some x.bm), .int .i64 (mostM ((x.ks).map E.T) : Int), .int .i64 (reachM E.W E.home E.tg (x.ks) : Int)] :: .mapk x.bm x.m :: ((l.eraseIdx i).flatMap (wvE E) ++ Z [])) H := by
 refine HLe.ofPerm (h.perm.trans ?_)
 exact List.Perm.append_right (Z []) (fm_get (wvE E) hx)

theorem put_wave {E : SrcE} {A : HP} {Z : HP → HP} {l : List WvM} {i : Nat} {y : WvM} (h : AtS A ((l.set i y).flatMap (wvE E)) Z) (hi : i < l.length) : A.Perm (.row y.b 148 [.map (some y.bm), .int .i64 (mostM ((y.ks).map E.T) : Int), .int .i64 (reachM E.W E.home E.tg (y.ks) : Int)] :: .mapk y.bm y.m :: ((l.eraseIdx i).flatMap (wvE E) ++ Z [])) := by
 refine h.perm.trans ?_
 exact List.Perm.append_right (Z []) (fm_set (wvE E) hi y)

theorem put_wave_new {E : SrcE} {A : HP} {Z : HP → HP} {l : List WvM} {y : WvM} (h : AtS A ((l ++ [y]).flatMap (wvE E)) Z) : A.Perm (.row y.b 148 [.map (some y.bm), .int .i64 (mostM ((y.ks).map E.T) : Int), .int .i64 (reachM E.W E.home E.tg (y.ks) : Int)] :: .mapk y.bm y.m :: (l.flatMap (wvE E) ++ Z [])) := by
 refine h.perm.trans ?_
 rw [List.flatMap_append]
 exact List.Perm.append_right (Z []) List.perm_append_comm

theorem foldl_maxB : ∀ (l : List Nat) (a b : Nat), a ≤ b → (∀ x ∈ l, x ≤ b) → l.foldl max a ≤ b
 | [], a, b, h, _ => h
 | x :: l, a, b, h, hl => by
  rw [List.foldl_cons]
  exact foldl_maxB l _ b (by have := hl x List.mem_cons_self; omega) fun y hy => hl y (List.mem_cons_of_mem _ hy)

end Go.Proofs
