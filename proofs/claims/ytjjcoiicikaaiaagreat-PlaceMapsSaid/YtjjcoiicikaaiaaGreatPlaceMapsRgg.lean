import Derived.Test.YtjjcoiicikaaiaaGreatPlaceMapsRfd
import Derived.Test.YtjjcoiicikaaiaaGreatPlaceMapsNb
set_option linter.unusedVariables false
set_option linter.unusedSimpArgs false
set_option maxHeartbeats 4000000
section

namespace Go.Gm

structure RWave where
 p : Option Go.Addr
 c : Nat
 l : List RSrc

theorem most_one {t : List Int} (ts : List (List Int)) : mostM (ts ++ [t]) ≤ mostM ts + 1 := by
 have h1 := mostM_is (ts ++ [t])
 have h2 := mostM_is ts
 rcases h1.ex with h | ⟨q, hq, h⟩
 ·omega
 ·rw [← h, cntM_snoc]
  have := h2.le q hq
  split <;> omega

end Go.Gm

namespace Go.Proofs

open Go Go.Vx Go.Gm

def rvV (x : RWave) : List Value := [.slice x.p x.l.length x.c]

def rvE (x : RWave) : Ent := .vec x.p x.l.length x.c 175 4 (flat rsV x.l)

theorem Src.ownS {w0 : World} {M : List Nat} {H r : HP} {u : Ent → HP} {q : Option Addr} {cq e : Nat} {l : List RSrc} (hat : At H (.vec q l.length cq e 4 (flat rsV l)) u r) (hq : 0 < l.length → ∃ g, q = some ⟨g, 0, none⟩) : Src w0 M H q l.length 4 (flat rsV l) := by
 rcases Nat.eq_zero_or_pos l.length with h | h
 ·have hl : l = [] := List.eq_nil_of_length_eq_zero h
  subst hl
  cases q with
  | none => exact .empty
  | some a => exact .none0
 ·obtain ⟨g, rfl⟩ := hq h
  refine .at_ (.vec hat ?_)
  rw [sub_mk _ _ _ (by rw [flat_length (k := 4) fun _ => rfl]; omega), List.drop_zero, List.take_of_length_le (by rw [flat_length (k := 4) fun _ => rfl]; omega)]

theorem Src.ownM {w0 : World} {M : List Nat} {H : HP} {q : Option Addr} {cq e : Nat} {l : List RSrc} (hm : Ent.vec q l.length cq e 4 (flat rsV l) ∈ H) (hq : 0 < l.length → ∃ g, q = some ⟨g, 0, none⟩) : Src w0 M H q l.length 4 (flat rsV l) := by
 obtain ⟨u, r, hat⟩ := At.ofMem hm
 exact Src.ownS hat hq

theorem put_seg_new {α : Type} {A : HP} {Z : HP → HP} {f : α → Ent} {l : List α} {y : α} (h : AtS A ((l ++ [y]).map f) Z) : A.Perm (f y :: (l.map f ++ Z [])) := by
 refine h.perm.trans ?_
 rw [List.map_append, List.map_singleton]
 exact List.Perm.append_right (Z []) (l₂ := f y :: l.map f) List.perm_append_comm

theorem rv_last (W : List RWave) : sub (flat rvV W ++ [.slice none 0 0]) (W.length * 1) 1 = some [.slice none 0 0] := by
 have := sub_flat0 (f := rvV) (k := 1) (l := W ++ [⟨none, 0, []⟩]) (i := W.length) (x := ⟨none, 0, []⟩) (vs := [.slice none 0 0]) (s := 1) (fun _ => rfl) (by simp) rfl
 rw [flat_append] at this
 exact this

theorem rv_upd (W : List RWave) (p : Option Addr) (c : Nat) (x : RSrc) : upd (flat rvV W ++ [.slice none 0 0]) (W.length * 1) [.slice p 1 c] = some (flat rvV (W ++ [⟨p, c, [x]⟩])) := by
 have := upd_flat0 (f := rvV) (k := 1) (l := W ++ [⟨none, 0, []⟩]) (i := W.length) (x := ⟨none, 0, []⟩) (y := ⟨p, c, [x]⟩) (vs := [.slice p 1 c]) (fun _ => rfl) (by simp) rfl
 rw [flat_append] at this
 have e : (W ++ [(⟨none, 0, []⟩ : RWave)]).set W.length ⟨p, c, [x]⟩ = W ++ [⟨p, c, [x]⟩] := by simp
 rw [e] at this
 exact this

theorem rwaves_any (C : Chp) (hroom : 1 ≤ C.mesh.room ∧ C.mesh.room ≤ 64) (pd : Option Addr) (cd : Nat) (T : Int → List Int) (L : List RSrc) (hL : ∀ x ∈ L, x.o = T x.key ∧ OutsOk x.o ∧ x.o.length ≤ 64) (hlen : L.length ≤ 256) (p : Option Addr) (c b o : Nat) (w : World) (h1 : Sl w rsV 4 L p L.length b o) (h2 : ∀ x ∈ L, ∃ b o, Sl w intV 1 x.o x.po x.o.length b o) :
  Calls Tryz.prog 84 #[.agg (chpC C pd cd).toArray, .slice p L.length c] w fun e w' => ∃ z : List RWave × Option Addr × Nat, e = .returned (.slice z.2.1 z.1.length z.2.2) ∧ (z.1.map (fun x => x.l.map (·.key)) = wavesM T C.mesh.room (L.map (·.key)) ∧ (∀ x ∈ z.1, (∀ y ∈ x.l, y ∈ L) ∧ (0 < x.l.length → ∃ g, x.p = some ⟨g, 0, none⟩) ∧ x.l.length ≤ L.length) ∧ (0 < z.1.length → ∃ g, z.2.1 = some ⟨g, 0, none⟩) ∧ z.1.length ≤ L.length) ∧
   St w [] (.vec z.2.1 z.1.length z.2.2 166 1 (flat rvV z.1) :: z.1.map rvE) w' := by
 have hld := fun (l : List RSrc) hl hn p c b o (w' : World) => rload_any l hl hn p c b o w'
 unfold chpC
 refine enter (C := Tryz.cx) (F := Tryz.fx84) (args := [_, _]) Tryz.func84 rfl rfl rfl Tryz.ok84 (St.start w []) ?_
 repeat' (conv => whnf); first | (refine VNew.mk fun b2 => ?_) | (refine VSeq.go ?_)
 all_goals (conv => whnf)
 refine VLoop.mk (α := Nat × List RWave × Option Addr × Nat) (fun z => z.1 ≤ L.length ∧ z.2.1.map (fun x => x.l.map (·.key)) = wavesM T C.mesh.room ((L.take z.1).map (·.key)) ∧ (∀ x ∈ z.2.1, (∀ y ∈ x.l, y ∈ L) ∧ (0 < x.l.length → ∃ g, x.p = some ⟨g, 0, none⟩) ∧ x.l.length ≤ z.1 ∧ (mostM (x.l.map (·.o)) : Int) ≤ C.mesh.room) ∧ (0 < z.2.1.length → ∃ g, z.2.2.1 = some ⟨g, 0, none⟩) ∧ z.2.1.length ≤ z.1) (fun z => [(1000000, .tuple #[]), (1, .slice p L.length c), (2, .pointer (some ⟨b2, 0, none⟩)), (4, .slice none 0 0), (5, .slice z.2.2.1 z.2.1.length z.2.2.2), (6, .int .i64 (z.1 : Int))])
  (fun z => .vec z.2.2.1 z.2.1.length z.2.2.2 166 1 (flat rvV z.2.1) :: .row b2 33 [.int .i64 C.mesh.wide, .int .i64 C.mesh.high, .int .i64 C.mesh.room, .int .i64 C.nr, .int .i64 C.sy, .int .i64 C.en, .int .i64 C.bits, .slice pd C.dead.length cd] :: z.2.1.map rvE) (fun z => L.length - z.1) (0, [], none, 0) ⟨Nat.zero_le _, rfl, by simp, fun h => absurd h (Nat.lt_irrefl _), Nat.le_refl _⟩ aE (HLe.nilv aH) ?_
 rintro ⟨i, W, q, qc⟩ ⟨hi, hW, hWo, hq, hWl⟩
 dsimp only at hi hW hWo hq hWl ⊢
 rcases Nat.lt_or_ge i L.length with hlt | hge
 ·obtain ⟨x, hx⟩ := h1.get hlt
  have hxL := List.mem_of_getElem? hx
  obtain ⟨hxT, hxo, hxl⟩ := hL x hxL
  have hW1 : wavesM T C.mesh.room ((L.take (i + 1)).map (·.key)) = waveAdd T C.mesh.room (W.map fun x => x.l.map (·.key)) x.key := by
   rw [List.take_add_one, hx, Option.toList_some, List.map_append, List.map_singleton, wavesM_snoc, hW]
  repeat' (conv => whnf); first | (refine VSeq.go ?_) | (refine VB.is ?_; refine VB.yes (by omega) fun _ => ?_) | (refine VB.is ?_; refine VB.no (by omega) fun _ => ?_)
  all_goals (conv => whnf)
  refine VLoop.mk (α := Nat) (fun j => j ≤ W.length ∧ ∀ j', j' < j → takesM C.mesh.room ((((W.map fun x => x.l.map (·.key)))[j']?.getD []).map T) (T x.key) = false) (fun j => [(1000000, .tuple #[]), (1, .slice p L.length c), (2, .pointer (some ⟨b2, 0, none⟩)), (4, .slice none 0 0), (5, .slice q W.length qc), (6, .int .i64 (i : Int)), (7, .int .i64 (j : Int))])
   (fun _ => .vec q W.length qc 166 1 (flat rvV W) :: .row b2 33 [.int .i64 C.mesh.wide, .int .i64 C.mesh.high, .int .i64 C.mesh.room, .int .i64 C.nr, .int .i64 C.sy, .int .i64 C.en, .int .i64 C.bits, .slice pd C.dead.length cd] :: W.map rvE) (fun j => W.length - j) 0 ⟨Nat.zero_le _, fun j hj => absurd hj (Nat.not_lt_zero _)⟩ aE (HLe.refl _) ?_
  rintro j ⟨hj, hjb⟩
  rcases Nat.lt_or_ge j W.length with hjl | hjg
  ·obtain ⟨wx, hwx⟩ : ∃ wx, W[j]? = some wx := ⟨_, List.getElem?_eq_getElem hjl⟩
   obtain ⟨hwL, hwp, hwl, hwm⟩ := hWo wx (List.mem_of_getElem? hwx)
   have hks : (W.map fun x => x.l.map (·.key))[j]?.getD [] = wx.l.map (·.key) := by rw [List.getElem?_map, hwx]; rfl
   have hTs : (wx.l.map (·.key)).map T = wx.l.map (·.o) := by
    rw [List.map_map]
    exact List.map_congr_left fun y hy => ((hL y (hwL y hy)).1).symm
   have htk := takes_iff (t := x.o) hwm hroom.1
   have hmo : (wx.l ++ [x]).map (·.o) = wx.l.map (·.o) ++ [x.o] := by rw [List.map_append, List.map_singleton]
   have hmb := most_one (t := x.o) (wx.l.map (·.o))
   have hnL : ∀ y ∈ wx.l ++ [x], y ∈ L := fun y hy => by
    rcases List.mem_append.1 hy with hy | hy
    ·exact hwL y hy
    ·rw [List.mem_singleton] at hy; subst hy; exact hxL
   have hlo := fun p c b o (w' : World) => hld (wx.l ++ [x]) (fun y hy => (hL y (hnL y hy)).2) (by rw [List.length_append, List.length_singleton]; omega) p c b o w'
   rw [hmo] at hlo
   have hfl : flat rsV (wx.l ++ [x]) = flat rsV wx.l ++ [.int .i64 x.key, .int .i64 x.home, .slice x.pg x.tg.length x.cg, .slice x.po x.o.length x.co] := by rw [flat_append, flat_one]; rfl
   have hln : (wx.l ++ [x]).length = wx.l.length + 1 := by rw [List.length_append, List.length_singleton]
   rw [hln] at hlo
   have hrs : sub (rsV x) 0 4 = some [.int .i64 x.key, .int .i64 x.home, .slice x.pg x.tg.length x.cg, .slice x.po x.o.length x.co] := rfl
   have hset : ∀ y : RWave, (W.set j y)[j]? = some y := fun y => by rw [List.getElem?_set, if_pos rfl, if_pos hjl]
   have hfin : ∀ (p : Option Addr) (c : Nat), (mostM (wx.l.map (·.o) ++ [x.o]) : Int) ≤ C.mesh.room → (W.set j ⟨p, c, wx.l ++ [x]⟩).map (fun x => x.l.map (·.key)) = wavesM T C.mesh.room ((L.take (i + 1)).map (·.key)) := fun p c hle => by
    rw [hW1, waveAdd_eq]
    have hix : waveIx T C.mesh.room (W.map fun x => x.l.map (·.key)) x.key = j := waveIx_spec (by rw [List.length_map]; exact hj) hjb fun _ => by
     rw [hks, hTs, ← hxT]; exact htk.2 hle
    rw [hix, if_pos (by rw [List.length_map]; exact hjl), hks, List.map_set, List.map_append, List.map_singleton]
   obtain ⟨gq, rfl⟩ := hq (by omega)
   have hwm2 : Ent.vec wx.p wx.l.length wx.c 175 4 (flat rsV wx.l) ∈ W.map rvE := List.mem_map_of_mem (f := rvE) (List.mem_of_getElem? hwx)
   have hos : ∀ (w' : World) (H : HP), St w [] H w' → ∀ y ∈ wx.l ++ [x], ∃ b o, Sl w' intV 1 y.o y.po y.o.length b o := fun w' H hw' y hy => by
    obtain ⟨b, o, h⟩ := h2 y (hnL y hy)
    exact ⟨b, o, h.keep hw' (by simp)⟩
   repeat' (conv => whnf); first | (refine VNew.mk fun bn => ?_) | (refine VIx.is ?_; refine VIx.mk rfl (by omega) (by omega) ?_) | (refine VIx.is ?_; refine VIx.mk (h1.ptr (by omega)) (by omega) (by omega) ?_) | (refine VLd.is ?_; refine VLd.mk (Rd.cast (.vec aT (sub_flat0 (f := rvV) (k := 1) (fun _ => rfl) hwx rfl)) (by first | omega | (dsimp only; omega) | rfl)) ?_) | (refine VLd.is ?_; refine VLd.mk (Rd.cast (h1.rd0 (by simp) (fun _ => rfl) hx hrs) (by first | omega | (dsimp only; omega) | rfl)) ?_) | (refine VAp.is ?_; refine VAp.own aT (.at_ (.vec aT rfl)) (by simp [Value.oneCell']) (by (try dsimp only); omega) (by simp only [maxLen]; omega) fun p1 c1 hp1 => ?_) | (refine VCall.isF 86 ?_; (refine VCall.valR (fun w' hw' => Exists.elim (Sl.own (f := rsV) (l := wx.l ++ [x]) (p := p1) (cap := c1) (k := 4) hw' (by rw [hfl]; exact aT) (fun _ => rfl) hln) fun b1 hb1 => hlo _ _ b1 0 w' hb1 (hos w' _ hw')) ?_)) | (refine VAp.is ?_; refine VAp.seg (f := rvE) (l := W) aS hwx rfl (.at_ (.vec aT rfl)) (by simp [Value.oneCell']) (by (try dsimp only); omega) (by simp only [maxLen]; omega) fun p1 c1 hp1 => ?_) | (refine VSt.is ?_; refine VSt.is ?_; refine VSt.cast (off' := j * 1) (by first | omega | (dsimp only; omega) | rfl) (VSt.vec aT (upd_flat0 (f := rvV) (k := 1) (y := ⟨p1, c1, wx.l ++ [x]⟩) (fun _ => rfl) hwx (by unfold rvV; rw [hln]; rfl)) rfl ?_)) | (refine VAp.is ?_; refine VAp.own aT (Src.ownM (l := wx.l) (by (repeat (first | exact hwm2 | exact List.mem_append_left _ hwm2 | apply List.mem_cons_of_mem | apply List.mem_append_right)); first | done | fail) hwp) (flat_one_cell (by simp [rsV, Value.oneCell'])) (by (try dsimp only); omega) (by simp only [maxLen]; omega) (fun p3 c3 hp3 => ?_); simp only [Nat.zero_add, List.nil_append]) | (refine VSeq.go ?_) | (refine VB.is ?_; refine VB.yes (by omega) fun _ => ?_) | (refine VB.is ?_; refine VB.no (by omega) fun _ => ?_) | (refine VB.split (fun _ => ?_) (fun _ => ?_)) | (refine VLd.is ?_; refine VLd.mk (.row aT (by rfl)) ?_) | (refine VAr.is ?_; refine oA ?_) | (refine VKeep.is ?_; refine VKeep.mk aH ?_) | (refine VHs.mk _ (.refl _) ?_) | (refine And.intro ?_ ?_)
   all_goals (conv => whnf)
   all_goals first
    | (refine VNext.mk (j + 1) ⟨by omega, fun j' hj' => ?_⟩ (by omega) aE aH
       by_cases hlt' : j' < j
       ·exact hjb j' hlt'
       ·have : j' = j := by omega
        subst this
        rw [hks, hTs, ← hxT]
        cases htv : takesM C.mesh.room (wx.l.map (·.o)) x.o with
        | false => rfl
        | true => exact absurd (htk.1 htv) (by omega))
    | (refine VNext.mk (i + 1, W.set j ⟨p1, c1, wx.l ++ [x]⟩, some ⟨gq, 0, none⟩, qc) ⟨by dsimp only; omega, hfin _ _ (by omega), fun y hy => ?_, fun _ => ⟨gq, rfl⟩, by dsimp only; rw [List.length_set]; omega⟩ (by dsimp only; omega) (by dsimp only; rw [List.length_set]; exact aE) ?_
       ·rcases List.mem_or_eq_of_mem_set hy with hy | rfl
        ·obtain ⟨a1, a2, a3, a4⟩ := hWo y hy
         exact ⟨a1, a2, by omega, a4⟩
        ·exact ⟨hnL, fun _ => hp1 (by omega), by dsimp only; rw [hln]; omega, by dsimp only; rw [hmo]; omega⟩
       ·dsimp only
        refine HLe.permL ?_ (put_seg (f := rvE) aS hjl)
        unfold rvE
        dsimp only
        rw [hfl, hln, List.length_set]
        exact aH)
    | trace_state
  have hje : j = W.length := by omega
  subst hje
  have hrs : sub (rsV x) 0 4 = some [.int .i64 x.key, .int .i64 x.home, .slice x.pg x.tg.length x.cg, .slice x.po x.o.length x.co] := rfl
  have hfin : ∀ (p : Option Addr) (c : Nat), (W ++ [(⟨p, c, [x]⟩ : RWave)]).map (fun (v : RWave) => v.l.map (·.key)) = wavesM T C.mesh.room ((L.take (i + 1)).map (·.key)) := fun p c => by
   rw [hW1, waveAdd_eq]
   have hix : waveIx T C.mesh.room (W.map fun x => x.l.map (·.key)) x.key = W.length := waveIx_spec (by rw [List.length_map]; exact Nat.le_refl _) hjb fun h => by rw [List.length_map] at h; exact absurd h (Nat.lt_irrefl _)
   rw [hix, if_neg (by rw [List.length_map]; exact Nat.lt_irrefl _), List.map_append]; rfl
  have hm1 : mostM [x.o] ≤ 1 := most_one (t := x.o) []
  repeat' (conv => whnf); first | (refine VNew.mk fun bn => ?_) | (refine VIx.is ?_; refine VIx.mk rfl (by omega) (by omega) ?_) | (refine VIx.is ?_; refine VIx.mk (h1.ptr (by omega)) (by omega) (by omega) ?_) | (refine VLd.is ?_; refine VLd.mk (Rd.cast (.vec aT ((rv_last W))) (by first | omega | (dsimp only; omega) | rfl)) ?_) | (refine VLd.is ?_; refine VLd.mk (Rd.cast (h1.rd0 (by simp) (fun _ => rfl) hx hrs) (by first | omega | (dsimp only; omega) | rfl)) ?_) | (refine VAp.is ?_; refine VAp.own aT (.at_ (.vec aT rfl)) (by simp [Value.oneCell']) (by (try dsimp only); omega) (by simp only [maxLen]; omega) fun p2 c2 hp2 => ?_; obtain ⟨g2, rfl⟩ := hp2 (by omega)) | (refine VAp.is ?_; refine VAp.nil rfl rfl rfl (.at_ (.vec aT rfl)) (by simp [Value.oneCell']) (by (try dsimp only); omega) (by simp only [maxLen]; omega) fun p1 c1 hp1 => ?_) | (refine VSt.is ?_; refine VSt.is ?_; refine VSt.cast (off' := W.length * 1) (by first | omega | (dsimp only; omega) | rfl) (VSt.vec aT (rv_upd W p1 c1 x) rfl ?_)) | (refine VSeq.go ?_) | (refine VB.is ?_; refine VB.yes (by omega) fun _ => ?_) | (refine VB.is ?_; refine VB.no (by omega) fun _ => ?_) | (refine VAr.is ?_; refine oA ?_) | (refine VKeep.is ?_; refine VKeep.mk aH ?_) | (refine VHs.mk _ (.refl _) ?_) | (refine And.intro ?_ ?_)
  all_goals (conv => whnf)
  all_goals first
   | (refine VNext.mk (i + 1, W ++ [⟨p1, c1, [x]⟩], some ⟨g2, 0, none⟩, c2) ⟨by dsimp only; omega, hfin _ _, fun y hy => ?_, fun _ => ⟨g2, rfl⟩, by dsimp only; rw [List.length_append, List.length_singleton]; omega⟩ (by dsimp only; omega) (by dsimp only; rw [List.length_append, List.length_singleton]; exact aE) ?_
      ·rcases List.mem_append.1 hy with hy | hy
       ·obtain ⟨a1, a2, a3, a4⟩ := hWo y hy
        exact ⟨a1, a2, by omega, a4⟩
       ·rw [List.mem_singleton] at hy; subst hy
        exact ⟨fun z hz => by rw [List.mem_singleton] at hz; subst hz; exact hxL, fun _ => hp1 (by omega), by dsimp only; rw [List.length_singleton]; omega, by dsimp only; rw [List.map_singleton]; omega⟩
      ·dsimp only
       refine HLe.permL ?_ (put_seg_new (f := rvE) aS)
       unfold rvE
       dsimp only
       rw [List.length_append, List.length_singleton]
       exact aH)
   | trace_state
 have hil : i = L.length := by omega
 subst hil
 rw [List.take_length] at hW
 repeat' (conv => whnf); first | (refine VSeq.go ?_) | (refine VB.is ?_; refine VB.yes (by omega) fun _ => ?_) | (refine VB.is ?_; refine VB.no (by omega) fun _ => ?_)
 all_goals (conv => whnf)
 exact ⟨fun w' hw' => ⟨(W, q, qc), rfl, ⟨hW, fun x hx => ⟨(hWo x hx).1, (hWo x hx).2.1, (hWo x hx).2.2.1⟩, hq, hWl⟩, hw'.le aH⟩⟩

end Go.Proofs
end

section

namespace Go.Gm

theorem waveAdd_perm (T : Int → List Int) (room : Int) (ws : List (List Int)) (key : Int) : (waveAdd T room ws key).flatten.Perm (ws.flatten ++ [key]) := by
 rw [waveAdd_eq]
 have hle := waveIx_le T room ws key
 generalize waveIx T room ws key = k at hle ⊢
 split
 ·rename_i hlt
  rw [List.getElem?_eq_getElem hlt, Option.getD_some, List.set_eq_take_append_cons_drop, if_pos hlt]
  have e : ws = ws.take k ++ ws[k] :: ws.drop (k + 1) := by rw [← List.drop_eq_getElem_cons hlt, List.take_append_drop]
  have e2 : ws.flatten = (ws.take k).flatten ++ (ws[k] ++ (ws.drop (k + 1)).flatten) := by
   conv => lhs; rw [e]
   rw [List.flatten_append, List.flatten_cons]
  rw [e2, List.flatten_append, List.flatten_cons, List.append_assoc, List.append_assoc, List.append_assoc]
  exact List.Perm.append_left _ (List.Perm.append_left _ List.perm_append_comm)
 ·rw [List.flatten_append]; simp

theorem waves_perm (T : Int → List Int) (room : Int) (keys : List Int) : (wavesM T room keys).flatten.Perm keys := by
 have h : ∀ (keys : List Int) (ws : List (List Int)), (keys.foldl (waveAdd T room) ws).flatten.Perm (ws.flatten ++ keys) := by
  intro keys
  induction keys with
  | nil => intro ws; simp
  | cons k l ih =>
   intro ws
   rw [List.foldl_cons]
   refine (ih _).trans ?_
   have := (waveAdd_perm T room ws k).append_right l
   rw [List.append_assoc] at this
   exact this
 exact h keys []

def wvAt (ws : List (List Int)) (k i : Nat) (j : Int) : Int := if j ∈ (ws[k]?.getD []).take i then (k : Int) else waveOf (ws.take k) j

theorem wvAt_zero (ws : List (List Int)) (k : Nat) (j : Int) : wvAt ws k 0 j = waveOf (ws.take k) j := by unfold wvAt; simp

theorem wvAt_next {ws : List (List Int)} {k i : Nat} {w : List Int} {x : Int} (hw : ws[k]? = some w) (hx : w[i]? = some x) (j : Int) : wvAt ws k (i + 1) j = if j = x then (k : Int) else wvAt ws k i j := by
 unfold wvAt
 rw [hw, Option.getD_some, List.take_add_one, hx, Option.toList_some]
 by_cases h : j = x
 ·subst h
  rw [if_pos rfl, if_pos (List.mem_append_right _ List.mem_cons_self)]
 ·rw [if_neg h]
  have : (j ∈ w.take i ++ [x]) ↔ j ∈ w.take i := by
   rw [List.mem_append, List.mem_singleton]
   exact ⟨fun h' => h'.elim id fun h' => absurd h' h, .inl⟩
  by_cases h2 : j ∈ w.take i
  ·rw [if_pos h2, if_pos (this.2 h2)]
  ·rw [if_neg h2, if_neg fun h' => h2 (this.1 h')]

theorem wvAt_row {ws : List (List Int)} (hn : ws.flatten.Nodup) {k : Nat} {w : List Int} (hw : ws[k]? = some w) (j : Int) : wvAt ws k w.length j = waveOf (ws.take (k + 1)) j := by
 have hlt := (List.getElem?_eq_some_iff.1 hw).1
 have hlen : (ws.take k).length = k := by rw [List.length_take]; omega
 unfold wvAt
 rw [hw, Option.getD_some, List.take_length, List.take_add_one, hw, Option.toList_some]
 unfold waveOf
 rw [List.findIdx?_append]
 by_cases h : j ∈ w
 ·rw [if_pos h]
  have h0 : (ws.take k).findIdx? (fun w => decide (j ∈ w)) = none := by
   rw [List.findIdx?_eq_none_iff]
   intro a ha
   rw [decide_eq_false_iff_not]
   intro hj
   have e : ws = ws.take k ++ ws.drop k := (List.take_append_drop k ws).symm
   rw [e, List.flatten_append, List.nodup_append] at hn
   refine hn.2.2 j (List.mem_flatten.2 ⟨a, ha, hj⟩) j (List.mem_flatten.2 ⟨w, ?_, h⟩) rfl
   exact List.mem_of_getElem? (i := 0) (by rw [List.getElem?_drop]; exact hw)
  have h1 : [w].findIdx? (fun w => decide (j ∈ w)) = some 0 := by simp [h]
  rw [h0, h1, hlen]; simp
 ·rw [if_neg h]
  have h1 : [w].findIdx? (fun w => decide (j ∈ w)) = none := by simp [h]
  rw [h1]
  cases (ws.take k).findIdx? fun w => decide (j ∈ w) <;> rfl

theorem rreach_eq {W : Int} {home : Int → Int} {tg : Int → List Int} {L : List RSrc} (h : ∀ x ∈ L, x.home = home x.key ∧ x.tg = tg x.key) : Proofs.rreachM W L = reachM W home tg (L.map (·.key)) := by
 unfold Proofs.rreachM reachM
 rw [List.flatMap_map]
 congr 1
 rw [List.flatMap_def, List.flatMap_def]
 congr 1
 exact List.map_congr_left fun x hx => by rw [(h x hx).1, (h x hx).2]

theorem rmost_eq {T : Int → List Int} {L : List RSrc} (h : ∀ x ∈ L, x.o = T x.key) : mostM (L.map (·.o)) = mostM ((L.map (·.key)).map T) := by
 rw [List.map_map]
 congr 1
 exact List.map_congr_left fun x hx => h x hx

end Go.Gm
end
