/- Rs: Resume of the program, walked. -/

import Derived.Test.YtbnipfgbfnhibaaNetSimsStp
import Derived.Test.YtbnipfgbfnhibaaNetSimsCc

set_option linter.unusedVariables false

set_option linter.unusedSimpArgs false

namespace Go.Vx

open Go

/-- A copy of as many elements as there are. -/
theorem VCp.full {w0 : World} {M : List Nat} {H r : HP} {u : Ent → HP} {p q : Option Addr} {n m cap e size : Nat} {xs news : List Value} {K : Value → HP → Prop} (hat : At H (.vec p n cap e size xs) u r) (hmn : m = n) (hs : Src w0 M H q n size news)
    (h1 : ∀ v ∈ news, v.oneCell' = true) (hl : xs.length = n * size) (hk : K (.int .i64 (n : Int)) (u (.vec p n cap e size news))) : VCp w0 M H p n cap e size q m K := by
  subst hmn
  refine .own hat (by rw [Nat.min_self]; exact hs) h1 ?_
  rw [Nat.min_self, List.drop_eq_nil_of_le (by omega), List.append_nil]
  exact hk

theorem VCp.seg {α : Type} {w0 : World} {M : List Nat} {H : HP} {l : List α} {f : α → Ent} {Z : HP → HP} {i : Nat} {x y : α} {p q : Option Addr} {n m cap e size : Nat} {xs news : List Value} {K : Value → HP → Prop} (h : AtS H (l.map f) Z) (hx : l[i]? = some x)
    (hf : f x = .vec p n cap e size xs) (hmn : m = n) (hs : Src w0 M H q n size news) (h1 : ∀ v ∈ news, v.oneCell' = true) (hl : xs.length = n * size) (hy : f y = .vec p n cap e size news) (hk : K (.int .i64 (n : Int)) (Z ((l.set i y).map f))) : VCp w0 M H p n cap e size q m K := by
  obtain ⟨u, r, hat, hz, _⟩ := h.one hx
  rw [hf] at hat
  rw [← hz, hy] at hk
  exact .full hat hmn hs h1 hl hk

end Go.Vx

namespace Go.Proofs

open Go Go.Vx Go.Gm

def bigK (k : Int) : Prop := ¬ (-268435456 ≤ k ∧ k ≤ 268435456)

instance (k : Int) : Decidable (bigK k) := by unfold bigK; infer_instance

/-- What Resume returns. -/
def resErr (N : Net) (tick : Int) (sts : List Sta) (rows : List (List Int)) : Int :=
  if netchk N ≠ 0 then netchk N
  else if ¬ (0 ≤ tick ∧ tick ≤ 10000) then 3
  else if sts.length ≠ N.ps.length ∨ rows.length ≠ 16 ∨ (∃ r ∈ rows, r.length ≠ N.ps.length) then 13
  else if ¬ (∀ x ∈ N.ps.zip sts, staOk x.1 x.2) then 3
  else if ∃ r ∈ rows, ∃ k ∈ r, bigK k then 3 else 0

structure ResOk (N : Net) (tick : Int) (sts : List Sta) (rows : List (List Int)) : Prop where
  net : NetOk N
  tick : 0 ≤ tick ∧ tick ≤ 10000
  stl : sts.length = N.ps.length
  sixteen : rows.length = 16
  row : ∀ r ∈ rows, r.length = N.ps.length
  sta : StaAll N sts
  big : ∀ r ∈ rows, ∀ k ∈ r, -268435456 ≤ k ∧ k ≤ 268435456

theorem staAll_zip {N : Net} {sts : List Sta} : (∀ x ∈ N.ps.zip sts, staOk x.1 x.2) ↔ StaAll N sts := by
  constructor
  · intro h i p s h1 h2
    refine h (p, s) (List.mem_of_getElem? (i := i) ?_)
    rw [List.getElem?_zip_eq_some]
    exact ⟨h1, h2⟩
  · rintro h ⟨p, s⟩ hx
    obtain ⟨i, hi⟩ := List.getElem?_of_mem hx
    rw [List.getElem?_zip_eq_some] at hi
    exact h i p s hi.1 hi.2

theorem resErr_zero {N : Net} {tick : Int} {sts : List Sta} {rows : List (List Int)} : resErr N tick sts rows = 0 ↔ ResOk N tick sts rows := by
  unfold resErr
  constructor
  · intro h
    split at h
    · contradiction
    · split at h
      · cases h
      · split at h
        · cases h
        · split at h
          · cases h
          · split at h
            · cases h
            · rename_i h1 h2 h3 h4 h5
              refine ⟨netchk_zero.1 (by omega), by omega, ?_, ?_, fun r hr => ?_, staAll_zip.1 (Classical.not_not.1 h4), fun r hr k hk => ?_⟩
              · exact Classical.not_not.1 fun e => h3 (.inl e)
              · exact Classical.not_not.1 fun e => h3 (.inr (.inl e))
              · exact Classical.not_not.1 fun e => h3 (.inr (.inr ⟨r, hr, e⟩))
              · exact Classical.not_not.1 fun e => h5 ⟨r, hr, k, hk, e⟩
  · rintro ⟨h1, h2, h3, h4, h5, h6, h7⟩
    rw [if_neg (by rw [netchk_zero.2 h1]; simp), if_neg (by omega), if_neg, if_neg (Classical.not_not.2 (staAll_zip.2 h6)), if_neg]
    · rintro ⟨r, hr, k, hk, e⟩; exact e (h7 r hr k hk)
    · rintro (h | h | ⟨r, hr, h⟩)
      · exact h h3
      · exact h h4
      · exact h (h5 r hr)

/-- What Resume hands back. -/
structure ResSim (N : Net) (tick : Int) (sts : List Sta) (rows : List (List Int)) (x : SimM) : Prop where
  run : SimRun x
  net : x.N = N
  tick : (x.tick : Int) = tick
  sts : x.sts = sts
  due : rot x.tick (x.D.map (·.l)) = rows

def resV : Option SimM → Value
  | none => .pointer none
  | some x => .pointer (some ⟨x.b, 0, none⟩)

def resG : Option SimM → HP
  | none => []
  | some x => simH x

def resP (N : Net) (tick : Int) (sts : List Sta) (rows : List (List Int)) : Option SimM → Prop
  | none => resErr N tick sts rows ≠ 0
  | some x => resErr N tick sts rows = 0 ∧ ResSim N tick sts rows x

def rowsOf (Ls : List (SlD Int)) : List (List Int) := Ls.map (·.l)

theorem Resume_any (N : Net) (hN : N.wf) (tick : Int) (htk : I64 tick) (sts : List Sta) (hsw : ∀ s ∈ sts, s.wf) (hsl : sts.length < 9223372036854775807) (Ls : List (SlD Int)) (hLl : Ls.length < 9223372036854775807) (hLi : ∀ d ∈ Ls, (∀ k ∈ d.l, I64 k) ∧ d.l.length < 9223372036854775807)
    (pn : Option Addr) (cn bn on : Nat) (qs : Option Addr) (cs bs os : Nat) (pst : Option Addr) (cst bst ost : Nat) (pd : Option Addr) (cd bd od : Nat) (w : World)
    (h1 : Sl w parV 8 N.ps pn N.ps.length bn on) (h2 : Sl w synV 4 N.syns qs N.syns.length bs os) (h3 : Sl w staV 2 sts pst sts.length bst ost) (h4 : Sl w slVs 1 Ls pd Ls.length bd od) (h5 : ∀ d ∈ Ls, ∃ b off, Sl w intV 1 d.l d.p d.l.length b off) :
    Calls Try.prog 38 #[.agg #[.slice pn N.ps.length cn, .int .i64 N.inputs, .slice qs N.syns.length cs], .agg #[.int .i64 tick, .slice pst sts.length cst, .slice pd Ls.length cd]] w fun e w' => ∃ y : Option SimM,
      e = .returned (.tuple #[resV y, .int .i64 (resErr N tick sts (rowsOf Ls))]) ∧ resP N tick sts (rowsOf Ls) y ∧ St w [] (resG y) w' := by
  have hnz := @netchk_zero N
  have hfin : ∀ (e : Int) w' H, St w [] H w' → e ≠ 0 → resErr N tick sts (rowsOf Ls) = e → ∃ y : Option SimM,
      Ending.returned (.tuple #[.pointer none, .int .i64 e]) = .returned (.tuple #[resV y, .int .i64 (resErr N tick sts (rowsOf Ls))]) ∧ resP N tick sts (rowsOf Ls) y ∧ St w [] (resG y) w' := by
    intro e w' H hw' h0 he
    refine ⟨none, by rw [he]; rfl, ?_, hw'.le .nil⟩
    show resErr N tick sts (rowsOf Ls) ≠ 0
    rw [he]; exact h0
  refine enter (C := Try.cx) (F := Try.fx38) (args := [_, _]) Try.func38 rfl rfl rfl Try.ok38 (St.start w []) ?_
  refine VSeq.go ?_
  repeat' (conv => whnf); first | (refine VB.is ?_; refine VB.yes (by omega) fun _ => ?_) | (refine VB.is ?_; refine VB.no (by omega) fun _ => ?_) | (refine VB.is ?_; refine VB.split (fun _ => ?_) (fun _ => ?_)) | (refine boolE_split (fun h => ?_) (fun h => ?_) <;> subst h) | (refine VLd.is ?_; refine VLd.mk (.row aT (by rfl)) ?_) | (refine VSt.is ?_; refine VSt.row aT (by rfl) (by first | rfl | assumption) ?_) | (refine VNew.is ?_; refine VNew.mk fun _ => ?_) | (refine VAr.is ?_; refine VAr.i64 (by omega) (by omega) ?_) | (refine VIx.is ?_; refine VIx.mk rfl (by omega) (by omega) ?_) | (refine VKeep.is ?_; refine VKeep.mk aH ?_) | (refine VHs.is ?_; refine VHs.mk _ (HLe.refl _) ?_) | (refine VQ.is ?_; refine VQ.pos (by omega) (by omega) (by omega) ?_) | (refine VM.is ?_; refine VM.pos (by omega) (by omega) ?_) | (refine And.intro ?_ ?_)
  all_goals (conv => whnf)
  rename_i b2 b3
  repeat' (conv => whnf); first | (refine VCall.isF 19 ?_; refine VCall.valR (fun w' hw' => Check_any N hN _ _ _ _ _ _ _ _ _ (h1.keep hw' (by simp)) (h2.keep hw' (by simp))) ?_) | (refine VCall.is ?_; refine VCall.bool (within_net _ _ _) ?_) | (refine VCall.isF 81 ?_; refine VCall.inl (F := Try.fx81) Try.func81 rfl rfl rfl Try.ok81 ?_) | (refine VCall.isF 110 ?_; refine VCall.inl (F := Try.fx110) Try.func110 rfl rfl rfl Try.ok110 ?_) | (refine VSeq.is ?_; refine VSeq.go ?_) | (refine VB.is ?_; refine VB.yes (by omega) fun _ => ?_) | (refine VB.is ?_; refine VB.no (by omega) fun _ => ?_) | (refine VB.is ?_; refine VB.split (fun _ => ?_) (fun _ => ?_)) | (refine boolE_split (fun h => ?_) (fun h => ?_) <;> subst h) | (refine VLd.is ?_; refine VLd.mk (.row aT (by rfl)) ?_) | (refine VSt.is ?_; refine VSt.row aT (by rfl) (by first | rfl | assumption) ?_) | (refine VNew.is ?_; refine VNew.mk fun _ => ?_) | (refine VAr.is ?_; refine VAr.i64 (by omega) (by omega) ?_) | (refine VIx.is ?_; refine VIx.mk rfl (by omega) (by omega) ?_) | (refine VKeep.is ?_; refine VKeep.mk aH ?_) | (refine VHs.is ?_; refine VHs.mk _ (HLe.refl _) ?_) | (refine VQ.is ?_; refine VQ.pos (by omega) (by omega) (by omega) ?_) | (refine VM.is ?_; refine VM.pos (by omega) (by omega) ?_) | (refine And.intro ?_ ?_)
  all_goals (conv => whnf)
  · exact ⟨fun w' hw' => hfin _ w' _ hw' (by omega) (by unfold resErr; rw [if_pos (by omega)])⟩
  · exact ⟨fun w' hw' => hfin _ w' _ hw' (by omega) (by unfold resErr; rw [if_neg (by omega), if_neg (by omega), if_pos (.inl (by omega))])⟩
  · exact ⟨fun w' hw' => hfin _ w' _ hw' (by omega) (by unfold resErr; rw [if_neg (by omega), if_neg (by omega), if_pos (.inr (.inl (by simp only [rowsOf, List.length_map]; omega)))])⟩
  rotate_left
  · exact ⟨fun w' hw' => hfin _ w' _ hw' (by omega) (by unfold resErr; rw [if_neg (by omega), if_pos (by omega)])⟩
  have hz : netchk N = 0 := by omega
  have hNok := hnz.1 hz
  have hfew := hNok.few
  have hpos := hNok.some
  have hst : sts.length = N.ps.length := by omega
  have h16 : Ls.length = 16 := by omega
  have hin := hNok.inputs
  refine VLoop.kr (α := Nat) [1000000, 0, 1, 4, 7] rfl (fun i => i ≤ Ls.length ∧ ∀ d ∈ Ls.take i, d.l.length = N.ps.length) (fun i K => (8, .int .i64 (i : Int)) :: K)
    (fun _ => [.row b2 25 [.slice pn N.ps.length cn, .int .i64 N.inputs, .slice qs N.syns.length cs], .row b3 66 [.int .i64 tick, .slice pst sts.length cst, .slice pd Ls.length cd]]) (fun i => Ls.length - i) 0 ⟨by omega, by simp⟩ aE aH ?_
  rintro i ⟨hi, hall⟩
  rcases Nat.lt_or_ge i Ls.length with hlt | hge
  · obtain ⟨d, hd⟩ := h4.get hlt
    have hdb := (hLi d (List.mem_of_getElem? hd)).2
    repeat' (conv => whnf); first | (refine VIx.is ?_; refine VIx.mk (h4.ptr (by omega)) (by omega) (by omega) ?_) | (refine VLd.is ?_; refine VLd.mk (Rd.cast (h4.rd0 (by simp) (fun _ => rfl) hd rfl) (by first | omega | (dsimp only; omega) | rfl)) ?_) | (refine VCall.isF 82 ?_; refine VCall.inl (F := Try.fx82) Try.func82 rfl rfl rfl Try.ok82 ?_) | (refine VSeq.is ?_; refine VSeq.go ?_) | (refine VB.is ?_; refine VB.yes (by omega) fun _ => ?_) | (refine VB.is ?_; refine VB.no (by omega) fun _ => ?_) | (refine VB.is ?_; refine VB.split (fun _ => ?_) (fun _ => ?_)) | (refine boolE_split (fun h => ?_) (fun h => ?_) <;> subst h) | (refine VLd.is ?_; refine VLd.mk (.row aT (by rfl)) ?_) | (refine VSt.is ?_; refine VSt.row aT (by rfl) (by first | rfl | assumption) ?_) | (refine VNew.is ?_; refine VNew.mk fun _ => ?_) | (refine VAr.is ?_; refine VAr.i64 (by omega) (by omega) ?_) | (refine VIx.is ?_; refine VIx.mk rfl (by omega) (by omega) ?_) | (refine VKeep.is ?_; refine VKeep.mk aH ?_) | (refine VHs.is ?_; refine VHs.mk _ (HLe.refl _) ?_) | (refine VQ.is ?_; refine VQ.pos (by omega) (by omega) (by omega) ?_) | (refine VM.is ?_; refine VM.pos (by omega) (by omega) ?_) | (refine And.intro ?_ ?_)
    all_goals (conv => whnf)
    · refine ⟨fun w' hw' => hfin _ w' _ hw' (by omega) ?_⟩
      unfold resErr
      rw [if_neg (by omega), if_neg (by omega), if_pos]
      exact .inr (.inr ⟨d.l, List.mem_map_of_mem (List.mem_of_getElem? hd), by omega⟩)
    · refine VNext.mk (i + 1) ⟨by omega, ?_⟩ (by omega) aE aH
      rw [List.take_add_one, hd, Option.toList_some]
      intro f hf
      rcases List.mem_append.1 hf with h | h
      · exact hall f h
      · simp only [List.mem_singleton] at h; subst h; omega
  rw [List.take_of_length_le hge] at hall
  repeat' (conv => whnf); first | (refine VSeq.is ?_; refine VSeq.go ?_) | (refine VB.is ?_; refine VB.yes (by omega) fun _ => ?_) | (refine VB.is ?_; refine VB.no (by omega) fun _ => ?_) | (refine VB.is ?_; refine VB.split (fun _ => ?_) (fun _ => ?_)) | (refine boolE_split (fun h => ?_) (fun h => ?_) <;> subst h) | (refine VLd.is ?_; refine VLd.mk (.row aT (by rfl)) ?_) | (refine VSt.is ?_; refine VSt.row aT (by rfl) (by first | rfl | assumption) ?_) | (refine VNew.is ?_; refine VNew.mk fun _ => ?_) | (refine VAr.is ?_; refine VAr.i64 (by omega) (by omega) ?_) | (refine VIx.is ?_; refine VIx.mk rfl (by omega) (by omega) ?_) | (refine VKeep.is ?_; refine VKeep.mk aH ?_) | (refine VHs.is ?_; refine VHs.mk _ (HLe.refl _) ?_) | (refine VQ.is ?_; refine VQ.pos (by omega) (by omega) (by omega) ?_) | (refine VM.is ?_; refine VM.pos (by omega) (by omega) ?_) | (refine And.intro ?_ ?_)
  all_goals (conv => whnf)
  have hn13 : ¬ (sts.length ≠ N.ps.length ∨ (rowsOf Ls).length ≠ 16 ∨ (∃ r ∈ rowsOf Ls, r.length ≠ N.ps.length)) := by
    rintro (h | h | ⟨r, hr, h⟩)
    · exact h hst
    · simp only [rowsOf, List.length_map] at h; exact h h16
    · obtain ⟨d, hd, rfl⟩ := List.mem_map.1 hr
      exact h (hall d hd)
  refine VLoop.kr (α := Nat) [1000000, 2, 3, 4, 5, 45, 46] rfl (fun i => i ≤ sts.length ∧ ∀ (j : Nat) p s, j < i → N.ps[j]? = some p → sts[j]? = some s → staOk p s) (fun i K => (47, .int .i64 (i : Int)) :: K)
    (fun _ => [.row b2 25 [.slice pn N.ps.length cn, .int .i64 N.inputs, .slice qs N.syns.length cs], .row b3 66 [.int .i64 tick, .slice pst sts.length cst, .slice pd Ls.length cd]]) (fun i => sts.length - i) 0 ⟨by omega, by omega⟩ aE aH ?_
  rintro i ⟨hi, hok⟩
  rcases Nat.lt_or_ge i sts.length with hlt | hge
  · obtain ⟨p, hp⟩ := h1.get (i := i) (by omega)
    obtain ⟨s, hs⟩ := h3.get hlt
    have hpk := hNok.ps p (List.mem_of_getElem? hp)
    have hck : chkS p s = if staOk p s then 0 else 3 := by unfold chkS; rw [if_pos (good_iff.2 hpk)]
    by_cases hso : staOk p s
    · rw [if_pos hso] at hck
      repeat' (conv => whnf); first | (refine VIx.is ?_; refine VIx.mk (h3.ptr (by omega)) (by omega) (by omega) ?_) | (refine VIx.is ?_; refine VIx.mk (h1.ptr (by omega)) (by omega) (by omega) ?_) | (refine VLd.is ?_; refine VLd.mk (Rd.cast (h1.rd0 (by simp) (fun _ => rfl) hp rfl) (by first | omega | (dsimp only; omega) | rfl)) ?_) | (refine VLd.is ?_; refine VLd.mk (Rd.cast (h3.rd0 (by simp) (fun _ => rfl) hs rfl) (by first | omega | (dsimp only; omega) | rfl)) ?_) | (refine VCall.isF 83 ?_; (refine VCall.val (valid_any p hpk.wf s) ?_; rw [hck])) | (refine VSeq.is ?_; refine VSeq.go ?_) | (refine VB.is ?_; refine VB.yes (by omega) fun _ => ?_) | (refine VB.is ?_; refine VB.no (by omega) fun _ => ?_) | (refine VB.is ?_; refine VB.split (fun _ => ?_) (fun _ => ?_)) | (refine boolE_split (fun h => ?_) (fun h => ?_) <;> subst h) | (refine VLd.is ?_; refine VLd.mk (.row aT (by rfl)) ?_) | (refine VSt.is ?_; refine VSt.row aT (by rfl) (by first | rfl | assumption) ?_) | (refine VNew.is ?_; refine VNew.mk fun _ => ?_) | (refine VAr.is ?_; refine VAr.i64 (by omega) (by omega) ?_) | (refine VIx.is ?_; refine VIx.mk rfl (by omega) (by omega) ?_) | (refine VKeep.is ?_; refine VKeep.mk aH ?_) | (refine VHs.is ?_; refine VHs.mk _ (HLe.refl _) ?_) | (refine VQ.is ?_; refine VQ.pos (by omega) (by omega) (by omega) ?_) | (refine VM.is ?_; refine VM.pos (by omega) (by omega) ?_) | (refine And.intro ?_ ?_)
      all_goals (conv => whnf)
      refine VNext.mk (i + 1) ⟨by omega, fun j p' s' hj hp' hs' => ?_⟩ (by omega) aE aH
      rcases Nat.lt_or_ge j i with h | h
      · exact hok j p' s' h hp' hs'
      · obtain rfl : j = i := by omega
        rw [hp] at hp'; rw [hs] at hs'; cases hp'; cases hs'; exact hso
    · rw [if_neg hso] at hck
      repeat' (conv => whnf); first | (refine VIx.is ?_; refine VIx.mk (h3.ptr (by omega)) (by omega) (by omega) ?_) | (refine VIx.is ?_; refine VIx.mk (h1.ptr (by omega)) (by omega) (by omega) ?_) | (refine VLd.is ?_; refine VLd.mk (Rd.cast (h1.rd0 (by simp) (fun _ => rfl) hp rfl) (by first | omega | (dsimp only; omega) | rfl)) ?_) | (refine VLd.is ?_; refine VLd.mk (Rd.cast (h3.rd0 (by simp) (fun _ => rfl) hs rfl) (by first | omega | (dsimp only; omega) | rfl)) ?_) | (refine VCall.isF 83 ?_; (refine VCall.val (valid_any p hpk.wf s) ?_; rw [hck])) | (refine VSeq.is ?_; refine VSeq.go ?_) | (refine VB.is ?_; refine VB.yes (by omega) fun _ => ?_) | (refine VB.is ?_; refine VB.no (by omega) fun _ => ?_) | (refine VB.is ?_; refine VB.split (fun _ => ?_) (fun _ => ?_)) | (refine boolE_split (fun h => ?_) (fun h => ?_) <;> subst h) | (refine VLd.is ?_; refine VLd.mk (.row aT (by rfl)) ?_) | (refine VSt.is ?_; refine VSt.row aT (by rfl) (by first | rfl | assumption) ?_) | (refine VNew.is ?_; refine VNew.mk fun _ => ?_) | (refine VAr.is ?_; refine VAr.i64 (by omega) (by omega) ?_) | (refine VIx.is ?_; refine VIx.mk rfl (by omega) (by omega) ?_) | (refine VKeep.is ?_; refine VKeep.mk aH ?_) | (refine VHs.is ?_; refine VHs.mk _ (HLe.refl _) ?_) | (refine VQ.is ?_; refine VQ.pos (by omega) (by omega) (by omega) ?_) | (refine VM.is ?_; refine VM.pos (by omega) (by omega) ?_) | (refine And.intro ?_ ?_)
      all_goals (conv => whnf)
      refine ⟨fun w' hw' => hfin _ w' _ hw' (by omega) ?_⟩
      unfold resErr
      rw [if_neg (by omega), if_neg (by omega), if_neg hn13, if_pos]
      exact fun h => hso (staAll_zip.1 h i p s hp hs)
  have hsta : StaAll N sts := fun j p s g1 g2 => hok j p s (by have := (List.getElem?_eq_some_iff.1 g2).1; omega) g1 g2
  have hcat : (cat Ls).length ≤ 16384 := by
    have : ∀ (L : List (SlD Int)), (∀ d ∈ L, d.l.length ≤ 1024) → (cat L).length ≤ L.length * 1024 := by
      intro L
      induction L with
      | nil => intro _; simp [cat]
      | cons d L ih =>
        intro h
        have e1 := ih fun x hx => h x (List.mem_cons_of_mem _ hx)
        have e2 := h d List.mem_cons_self
        unfold cat at e1 ⊢
        rw [List.flatMap_cons, List.length_append, List.length_cons]
        omega
    have := this Ls fun d hd => by have := hall d hd; omega
    omega
  repeat' (conv => whnf); first | (refine VCall.isF 84 ?_; (refine VCall.genR (fun w' hw' => concatInt_any Ls (by omega) (by omega) _ _ _ _ w' (h4.keep hw' (by simp)) (fun d hd => by obtain ⟨g1, g2, g3⟩ := h5 d hd; exact ⟨g1, g2, g3.keep hw' (by simp)⟩)) ?_; rintro ⟨p1, c1⟩ hp1; dsimp only at hp1)) | (refine VCall.isF 76 ?_; refine VCall.inl (F := Try.fx76) Try.func76 rfl rfl rfl Try.ok76 ?_) | (refine VCall.isF 107 ?_; refine VCall.inl (F := Try.fx107) Try.func107 rfl rfl rfl Try.ok107 ?_) | (refine VSeq.is ?_; refine VSeq.go ?_) | (refine VB.is ?_; refine VB.yes (by omega) fun _ => ?_) | (refine VB.is ?_; refine VB.no (by omega) fun _ => ?_) | (refine VB.is ?_; refine VB.split (fun _ => ?_) (fun _ => ?_)) | (refine boolE_split (fun h => ?_) (fun h => ?_) <;> subst h) | (refine VLd.is ?_; refine VLd.mk (.row aT (by rfl)) ?_) | (refine VSt.is ?_; refine VSt.row aT (by rfl) (by first | rfl | assumption) ?_) | (refine VNew.is ?_; refine VNew.mk fun _ => ?_) | (refine VAr.is ?_; refine VAr.i64 (by omega) (by omega) ?_) | (refine VIx.is ?_; refine VIx.mk rfl (by omega) (by omega) ?_) | (refine VKeep.is ?_; refine VKeep.mk aH ?_) | (refine VHs.is ?_; refine VHs.mk _ (HLe.refl _) ?_) | (refine VQ.is ?_; refine VQ.pos (by omega) (by omega) (by omega) ?_) | (refine VM.is ?_; refine VM.pos (by omega) (by omega) ?_) | (refine And.intro ?_ ?_)
  all_goals (conv => whnf)
  obtain ⟨C, hC⟩ : ∃ C, cat Ls = C := ⟨_, rfl⟩
  have hrowC : ∀ r ∈ rowsOf Ls, ∀ k ∈ r, k ∈ C := by
    intro r hr k hk
    obtain ⟨d, hd, rfl⟩ := List.mem_map.1 hr
    rw [← hC]
    exact List.mem_flatMap.2 ⟨d, hd, hk⟩
  have hCrow : ∀ k ∈ C, I64 k ∧ ∃ r ∈ rowsOf Ls, k ∈ r := by
    intro k hk
    rw [← hC] at hk
    obtain ⟨d, hd, hk⟩ := List.mem_flatMap.1 hk
    exact ⟨(hLi d hd).1 k hk, d.l, List.mem_map_of_mem hd, hk⟩
  rw [hC] at hp1 hcat ⊢
  dsimp only
  refine VLoop.kr (α := Nat) [1000000, 0, 1, 4, 7] rfl (fun j => j ≤ C.length ∧ ∀ k ∈ C.take j, ¬ bigK k) (fun i K => (8, .int .i64 (i : Int)) :: K)
    (fun _ => [.row b2 25 [.slice pn N.ps.length cn, .int .i64 N.inputs, .slice qs N.syns.length cs], .row b3 66 [.int .i64 tick, .slice pst sts.length cst, .slice pd Ls.length cd], .vec p1 C.length c1 3 1 (flat intV C)]) (fun i => C.length - i) 0 ⟨by omega, by simp⟩ aE aH ?_
  rintro j ⟨hj, hjall⟩
  rcases Nat.lt_or_ge j C.length with hltj | hgej
  · obtain ⟨k, hk⟩ : ∃ k, C[j]? = some k := ⟨C[j], List.getElem?_eq_getElem _⟩
    obtain ⟨hk64, r, hr, hkr⟩ := hCrow k (List.mem_of_getElem? hk)
    unfold I64 at hk64
    obtain ⟨g1, hg1⟩ := hp1 (by omega)
    subst hg1
    repeat' (conv => whnf); first | (refine VIx.is ?_; refine VIx.mk rfl (by omega) (by omega) ?_) | (refine VLd.is ?_; refine VLd.mk (Rd.cast (.vec aT (sub_flat0 (f := intV) (k := 1) (fun _ => rfl) hk rfl)) (by first | omega | (dsimp only; omega) | rfl)) ?_) | (refine VCall.isF 85 ?_; refine VCall.inl (F := Try.fx85) Try.func85 rfl rfl rfl Try.ok85 ?_) | (refine VCall.is ?_; refine VCall.bool (within_net _ _ _) ?_) | (refine VSeq.is ?_; refine VSeq.go ?_) | (refine VB.is ?_; refine VB.yes (by omega) fun _ => ?_) | (refine VB.is ?_; refine VB.no (by omega) fun _ => ?_) | (refine VB.is ?_; refine VB.split (fun _ => ?_) (fun _ => ?_)) | (refine boolE_split (fun h => ?_) (fun h => ?_) <;> subst h) | (refine VLd.is ?_; refine VLd.mk (.row aT (by rfl)) ?_) | (refine VSt.is ?_; refine VSt.row aT (by rfl) (by first | rfl | assumption) ?_) | (refine VNew.is ?_; refine VNew.mk fun _ => ?_) | (refine VAr.is ?_; refine VAr.i64 (by omega) (by omega) ?_) | (refine VIx.is ?_; refine VIx.mk rfl (by omega) (by omega) ?_) | (refine VKeep.is ?_; refine VKeep.mk aH ?_) | (refine VHs.is ?_; refine VHs.mk _ (HLe.refl _) ?_) | (refine VQ.is ?_; refine VQ.pos (by omega) (by omega) (by omega) ?_) | (refine VM.is ?_; refine VM.pos (by omega) (by omega) ?_) | (refine And.intro ?_ ?_)
    all_goals (conv => whnf)
    · refine VNext.mk (j + 1) ⟨by omega, ?_⟩ (by omega) aE aH
      rw [List.take_add_one, hk, Option.toList_some]
      intro f hf
      rcases List.mem_append.1 hf with h | h
      · exact hjall f h
      · simp only [List.mem_singleton] at h; subst h; unfold bigK; omega
    · refine ⟨fun w' hw' => hfin _ w' _ hw' (by omega) ?_⟩
      unfold resErr
      rw [if_neg (by omega), if_neg (by omega), if_neg hn13, if_neg (Classical.not_not.2 (staAll_zip.2 hsta)), if_pos ⟨r, hr, k, hkr, by unfold bigK; omega⟩]
  rw [List.take_of_length_le hgej] at hjall
  have hzero : resErr N tick sts (rowsOf Ls) = 0 := by
    rw [resErr_zero]
    refine ⟨hNok, by omega, hst, by simp only [rowsOf, List.length_map]; exact h16, fun r hr => ?_, hsta, fun r hr k hk => ?_⟩
    · obtain ⟨d, hd, rfl⟩ := List.mem_map.1 hr
      exact hall d hd
    · exact Classical.not_not.1 (hjall k (hrowC r hr k hk))
  repeat' (conv => whnf); first | (refine VCall.is ?_; refine VCall.isF 59 ?_; refine VCall.genR (fun w' hw' => start_any N hNok _ _ _ _ _ _ _ _ _ (h1.keep hw' (by simp)) (h2.keep hw' (by simp))) ?_; rintro x ⟨hx, hxN, hxt, hxs, hxD⟩) | (refine VSeq.is ?_; refine VSeq.cut (at_ := 18) (α := SimM) (fun x => SimOk x ∧ x.N = N ∧ x.tick = 0) (fun x => [(1000000, .tuple #[]), (3, .pointer (some ⟨b3, 0, none⟩)), (10, .pointer (some ⟨x.b, 0, none⟩)), (4, .pointer none), (5, .int .i64 0)]) (fun x => .row b3 66 [.int .i64 tick, .slice pst sts.length cst, .slice pd Ls.length cd] :: (ownH x ++ shrH x)) ?_ ?_) | (refine VSeq.is ?_; refine VSeq.go ?_) | (refine VB.is ?_; refine VB.yes (by omega) fun _ => ?_) | (refine VB.is ?_; refine VB.no (by omega) fun _ => ?_) | (refine VB.is ?_; refine VB.split (fun _ => ?_) (fun _ => ?_)) | (refine boolE_split (fun h => ?_) (fun h => ?_) <;> subst h) | (refine VLd.is ?_; refine VLd.mk (.row aT (by rfl)) ?_) | (refine VSt.is ?_; refine VSt.row aT (by rfl) (by first | rfl | assumption) ?_) | (refine VNew.is ?_; refine VNew.mk fun _ => ?_) | (refine VAr.is ?_; refine VAr.i64 (by omega) (by omega) ?_) | (refine VIx.is ?_; refine VIx.mk rfl (by omega) (by omega) ?_) | (refine VKeep.is ?_; refine VKeep.mk aH ?_) | (refine VHs.is ?_; refine VHs.mk _ (HLe.refl _) ?_) | (refine VQ.is ?_; refine VQ.pos (by omega) (by omega) (by omega) ?_) | (refine VM.is ?_; refine VM.pos (by omega) (by omega) ?_) | (refine And.intro ?_ ?_)
  all_goals (conv => whnf)
  · refine VMid.mk x ⟨hx, hxN, hxt⟩ aE ?_
    unfold simH
    rw [List.append_assoc]
    exact aH
  rintro x ⟨hx, hxN, hxt⟩
  obtain ⟨b, N', pb, pc, sv, bw, R, tk, sb, sc, sts0, D⟩ := x
  dsimp only at hxN hxt
  subst hxN hxt
  obtain ⟨n, hn⟩ : ∃ n : Nat, tick = (n : Int) := ⟨tick.toNat, by omega⟩
  subst hn
  have hs0 : sts0.length = sts.length := hx.sts.trans hst.symm
  have hup : upd (simC ⟨b, N', pb, pc, sv, bw, R, 0, sb, sc, sts0, D⟩) 4 [.int .i64 (n : Int)] = some (simC ⟨b, N', pb, pc, sv, bw, R, n, sb, sc, sts, D⟩) := by
    unfold simC
    dsimp only
    rw [hs0]
    rfl
  have h53 : sub (simC ⟨b, N', pb, pc, sv, bw, R, n, sb, sc, sts, D⟩) 5 1 = some [.slice (some ⟨sb, 0, none⟩) sts.length sc] := by
    rw [sub_mk _ _ _ (by simp [simC])]; rfl
  obtain ⟨c0, hc0⟩ : ∃ c0, simC ⟨b, N', pb, pc, sv, bw, R, 0, sb, sc, sts0, D⟩ = c0 := ⟨_, rfl⟩
  obtain ⟨c1, hc1⟩ : ∃ c1, simC ⟨b, N', pb, pc, sv, bw, R, n, sb, sc, sts, D⟩ = c1 := ⟨_, rfl⟩
  rw [hc0, hc1] at hup
  rw [hc1] at h53
  have eH : ownH ⟨b, N', pb, pc, sv, bw, R, 0, sb, sc, sts0, D⟩ ++ shrH ⟨b, N', pb, pc, sv, bw, R, 0, sb, sc, sts0, D⟩ = .row b 104 c0 :: .vec (some ⟨sb, 0, none⟩) sts.length sc 98 2 (flat staV sts0) :: (D.map drowE ++ shrH ⟨b, N', pb, pc, sv, bw, R, 0, sb, sc, sts0, D⟩) := by
    rw [← hc0, ← hs0]; rfl
  obtain ⟨SH, hSH⟩ : ∃ SH, shrH ⟨b, N', pb, pc, sv, bw, R, 0, sb, sc, sts0, D⟩ = SH := ⟨_, rfl⟩
  rw [eH, hSH]
  dsimp only
  repeat' (conv => whnf); first | (refine VSt.is ?_; refine VSt.cast (off' := 4) (by first | omega | (dsimp only; omega)) (VSt.row aT hup rfl ?_)) | (refine VLd.is ?_; refine VLd.mk (Rd.cast (.row aT (h53)) (by first | omega | (dsimp only; omega) | rfl)) ?_) | (refine VCp.is ?_; refine VCp.full aT rfl (h3.src (by simp) (fun _ => rfl)) (flat_one_cell (by simp [staV, Value.oneCell'])) ((flat_length (k := 2) (fun _ => rfl)).trans (by rw [hs0])) ?_) | (refine VHs.is ?_; refine VHs.mk [.row b3 66 [.int .i64 (n : Int), .slice pst sts.length cst, .slice pd Ls.length cd], .row b 104 c1, .vec (some ⟨sb, 0, none⟩) sts.length sc 98 2 (flat staV sts0)] aH ?_) | (refine VSeq.is ?_; refine VSeq.go ?_) | (refine VB.is ?_; refine VB.yes (by omega) fun _ => ?_) | (refine VB.is ?_; refine VB.no (by omega) fun _ => ?_) | (refine VB.is ?_; refine VB.split (fun _ => ?_) (fun _ => ?_)) | (refine boolE_split (fun h => ?_) (fun h => ?_) <;> subst h) | (refine VLd.is ?_; refine VLd.mk (.row aT (by rfl)) ?_) | (refine VSt.is ?_; refine VSt.row aT (by rfl) (by first | rfl | assumption) ?_) | (refine VNew.is ?_; refine VNew.mk fun _ => ?_) | (refine VAr.is ?_; refine VAr.i64 (by omega) (by omega) ?_) | (refine VIx.is ?_; refine VIx.mk rfl (by omega) (by omega) ?_) | (refine VKeep.is ?_; refine VKeep.mk aH ?_) | (refine VHs.is ?_; refine VHs.mk _ (HLe.refl _) ?_) | (refine VQ.is ?_; refine VQ.pos (by omega) (by omega) (by omega) ?_) | (refine VM.is ?_; refine VM.pos (by omega) (by omega) ?_) | (refine And.intro ?_ ?_)
  all_goals (conv => whnf)
  have h43 : sub c1 4 1 = some [.int .i64 (n : Int)] := by rw [← hc1]; rfl
  have hD16 : D.length = 16 := hx.due
  have hDc : ∀ d ∈ D, d.l.length = N'.ps.length := hx.cells
  refine VLoop.kr (α := Nat × List DRow) [1000000, 4, 5, 10, 82, 83] rfl (fun y => y.1 ≤ 16 ∧ y.2.map drowV = D.map drowV ∧ ∀ (j : Nat) s d, j < y.1 → Ls[j]? = some s → y.2[(n + j) % 16]? = some d → d.l = s.l) (fun y K => (84, .int .i64 (y.1 : Int)) :: K)
    (fun y => .row b 104 c1 :: .vec (some ⟨sb, 0, none⟩) sts.length sc 98 2 (flat staV sts) :: (y.2.map drowE ++ SH)) (fun y => 16 - y.1) (0, D) ⟨by simp, rfl, by simp⟩ aE aH ?_
  rintro ⟨i, D1⟩ ⟨hi1, hV1, hD1⟩
  dsimp only at hi1 hV1 hD1 ⊢
  have hl1 : D1.length = 16 := by have := congrArg List.length hV1; simp only [List.length_map] at this; omega
  rcases Nat.lt_or_ge i 16 with hlt1 | hge1
  · obtain ⟨s, hs⟩ := h4.get (i := i) (by omega)
    have hsl1 := hall s (List.mem_of_getElem? hs)
    obtain ⟨sg, so, hss⟩ := h5 s (List.mem_of_getElem? hs)
    obtain ⟨d, hd⟩ : ∃ d, D1[(n + i) % 16]? = some d := ⟨D1[(n + i) % 16]'(by omega), List.getElem?_eq_getElem _⟩
    obtain ⟨d0, hd0, hd0l⟩ := drowV_len hV1 hd
    have hdl : s.l.length = d.l.length := by rw [hsl1, ← hd0l, hDc d0 (List.mem_of_getElem? hd0)]
    have hrow1 : sub c1 (6 + (((n : Int) + (i : Int)) % 16).toNat) 1 = some [drowV d] := by
      have := sub_due (x := ⟨b, N', pb, pc, sv, bw, R, n, sb, sc, sts, D⟩) hV1 hd
      rw [hc1] at this
      rw [show (((n : Int) + (i : Int)) % 16).toNat = (n + i) % 16 by omega]; exact this
    have hyd : drowE ⟨d.g, d.cap, s.l⟩ = .vec (some ⟨d.g, 0, none⟩) d.l.length d.cap 3 1 (flat intV s.l) := by unfold drowE; rw [hdl]
    repeat' (conv => whnf); first | (refine VIx.is ?_; refine VIx.mk (h4.ptr (by omega)) (by omega) (by omega) ?_) | (refine VLd.is ?_; refine VLd.mk (Rd.cast (h4.rd0 (by simp) (fun _ => rfl) hs rfl) (by first | omega | (dsimp only; omega) | rfl)) ?_) | (refine VCall.isF 86 ?_; refine VCall.inl (F := Try.fx86) Try.func86 rfl rfl rfl Try.ok86 ?_) | (refine VLd.is ?_; refine VLd.mk (Rd.cast (.row aT (h43)) (by first | omega | (dsimp only; omega) | rfl)) ?_) | (refine VLd.is ?_; refine VLd.mk (Rd.cast (.row aT (hrow1)) (by first | omega | (dsimp only; omega) | rfl)) ?_) | (refine VCp.is ?_; refine VCp.seg (f := drowE) (l := D1) (y := ⟨d.g, d.cap, s.l⟩) aS hd rfl hdl (by rw [← hdl]; exact hss.src (by simp) (fun _ => rfl)) (flat_one_cell (by simp [intV, Value.oneCell'])) (flat_length (k := 1) (fun _ => rfl)) hyd ?_) | (refine VSeq.is ?_; refine VSeq.go ?_) | (refine VB.is ?_; refine VB.yes (by omega) fun _ => ?_) | (refine VB.is ?_; refine VB.no (by omega) fun _ => ?_) | (refine VB.is ?_; refine VB.split (fun _ => ?_) (fun _ => ?_)) | (refine boolE_split (fun h => ?_) (fun h => ?_) <;> subst h) | (refine VLd.is ?_; refine VLd.mk (.row aT (by rfl)) ?_) | (refine VSt.is ?_; refine VSt.row aT (by rfl) (by first | rfl | assumption) ?_) | (refine VNew.is ?_; refine VNew.mk fun _ => ?_) | (refine VAr.is ?_; refine VAr.i64 (by omega) (by omega) ?_) | (refine VIx.is ?_; refine VIx.mk rfl (by omega) (by omega) ?_) | (refine VKeep.is ?_; refine VKeep.mk aH ?_) | (refine VHs.is ?_; refine VHs.mk _ (HLe.refl _) ?_) | (refine VQ.is ?_; refine VQ.pos (by omega) (by omega) (by omega) ?_) | (refine VM.is ?_; refine VM.pos (by omega) (by omega) ?_) | (refine And.intro ?_ ?_)
    all_goals (conv => whnf)
    refine VNext.mk (i + 1, D1.set ((n + i) % 16) ⟨d.g, d.cap, s.l⟩) ⟨by dsimp only; omega, ?_, fun j s' d' hj hs' hd' => ?_⟩ (by dsimp only; omega) aE aH
    · dsimp only
      rw [List.map_set]
      refine (List.set_getElem?_self' ?_).trans hV1
      rw [List.getElem?_map, hd]
      simp [drowV, hdl]
    · dsimp only at hd' hj
      rw [List.getElem?_set] at hd'
      by_cases hji : j = i
      · subst hji
        rw [if_pos rfl, if_pos (by omega)] at hd'
        cases hd'
        rw [hs] at hs'; cases hs'; rfl
      · have hj16 : j < 16 := by omega
        rw [if_neg (by omega)] at hd'
        exact hD1 j s' d' (by omega) hs' hd'
  · obtain rfl : i = 16 := by omega
    repeat' (conv => whnf); first | (refine VSeq.is ?_; refine VSeq.go ?_) | (refine VB.is ?_; refine VB.yes (by omega) fun _ => ?_) | (refine VB.is ?_; refine VB.no (by omega) fun _ => ?_) | (refine VB.is ?_; refine VB.split (fun _ => ?_) (fun _ => ?_)) | (refine boolE_split (fun h => ?_) (fun h => ?_) <;> subst h) | (refine VLd.is ?_; refine VLd.mk (.row aT (by rfl)) ?_) | (refine VSt.is ?_; refine VSt.row aT (by rfl) (by first | rfl | assumption) ?_) | (refine VNew.is ?_; refine VNew.mk fun _ => ?_) | (refine VAr.is ?_; refine VAr.i64 (by omega) (by omega) ?_) | (refine VIx.is ?_; refine VIx.mk rfl (by omega) (by omega) ?_) | (refine VKeep.is ?_; refine VKeep.mk aH ?_) | (refine VHs.is ?_; refine VHs.mk _ (HLe.refl _) ?_) | (refine VQ.is ?_; refine VQ.pos (by omega) (by omega) (by omega) ?_) | (refine VM.is ?_; refine VM.pos (by omega) (by omega) ?_) | (refine And.intro ?_ ?_)
    all_goals (conv => whnf)
    refine ⟨fun w' hw' => ⟨some ⟨b, N', pb, pc, sv, bw, R, n, sb, sc, sts, D1⟩, by rw [hzero]; rfl, ⟨hzero, ⟨⟨⟨hNok, hx.rows, hx.wired, hst, hl1, fun d hd => ?_, hx.sv⟩, hsta, by dsimp only; omega⟩, rfl, rfl, rfl, ?_⟩⟩, hw'.le ?_⟩⟩
    · obtain ⟨k, hk⟩ := List.getElem?_of_mem hd
      obtain ⟨d0, g1, g2⟩ := drowV_len hV1 hk
      rw [← g2]
      exact hDc d0 (List.mem_of_getElem? g1)
    · dsimp only
      apply List.ext_getElem?
      intro j
      rw [rot_get]
      by_cases hj : j < 16
      · obtain ⟨s, hs⟩ := h4.get (i := j) (by omega)
        obtain ⟨d, hd⟩ : ∃ d, D1[(n + j) % 16]? = some d := ⟨D1[(n + j) % 16]'(by omega), List.getElem?_eq_getElem _⟩
        rw [if_pos hj, List.getElem?_map, hd, rowsOf, List.getElem?_map, hs]
        simp [hD1 j s d hj hs hd]
      · rw [if_neg hj, rowsOf, List.getElem?_eq_none (by simp; omega)]
    · show HLe (ownH ⟨b, N', pb, pc, sv, bw, R, n, sb, sc, sts, D1⟩ ++ shrH ⟨b, N', pb, pc, sv, bw, R, n, sb, sc, sts, D1⟩) _
      have e1 : simC ⟨b, N', pb, pc, sv, bw, R, n, sb, sc, sts, D1⟩ = c1 := by rw [← hc1]; unfold simC; dsimp only; rw [hV1]
      have e2 : ownH ⟨b, N', pb, pc, sv, bw, R, n, sb, sc, sts, D1⟩ ++ shrH ⟨b, N', pb, pc, sv, bw, R, n, sb, sc, sts, D1⟩ = .row b 104 c1 :: .vec (some ⟨sb, 0, none⟩) sts.length sc 98 2 (flat staV sts) :: (D1.map drowE ++ SH) := by
        rw [← e1, ← hSH]; rfl
      rw [e2]
      exact aH

end Go.Proofs
