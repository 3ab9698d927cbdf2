/- Net4: the synapses of a network by their sources, walked. -/
import Derived.Test.YtbnipfgbfnhibaaNet2
set_option linter.unusedVariables false
set_option linter.unusedSimpArgs false
set_option linter.unnecessarySimpa false
namespace Go.Proofs
open Go Go.Vx Go.Gm

/-- The synapses of one source, as they lie in memory. -/
structure WRow where
  key : Int
  p : Option Addr
  cap : Nat
  l : List Syn

def wrowV (r : WRow) : Value := .slice r.p r.l.length r.cap
def wrowE (r : WRow) : Ent := .vec r.p r.l.length r.cap 96 4 (flat synV r.l)
def wrowM (r : WRow) : Int × Value := (r.key, wrowV r)
def wrowK (r : WRow) : Int × List Syn := (r.key, r.l)

theorem wrow_cases (R : List WRow) (s : Syn) :
    (∃ (j : Nat) (r : WRow), R[j]? = some r ∧ mfind (R.map wrowM) s.frm = some (wrowV r) ∧
      ∀ r' : WRow, r'.key = r.key → r'.l = r.l ++ [s] → mset (R.map wrowM) s.frm (wrowV r') = (R.set j r').map wrowM ∧ wireAdd (R.map wrowK) s = (R.set j r').map wrowK) ∨
    (mfind (R.map wrowM) s.frm = none ∧
      ∀ r' : WRow, r'.key = s.frm → r'.l = [s] → mset (R.map wrowM) s.frm (wrowV r') = (R ++ [r']).map wrowM ∧ wireAdd (R.map wrowK) s = (R ++ [r']).map wrowK) := by
  induction R with
  | nil => right; refine ⟨rfl, fun r' h1 h2 => ?_⟩; simp [mset, wireAdd, wrowM, wrowK, h1, h2]
  | cons z R ih =>
    by_cases h : z.key = s.frm
    · left
      refine ⟨0, z, rfl, by simp [mfind, wrowM, h], fun r' h1 h2 => ?_⟩
      simp [mset, wireAdd, wrowM, wrowK, h, h1, h2]
    · rcases ih with ⟨j, r, g1, g2, g3⟩ | ⟨g2, g3⟩
      · left
        refine ⟨j + 1, r, by simpa using g1, by simpa [mfind, wrowM, h] using g2, fun r' h1 h2 => ?_⟩
        obtain ⟨k1, k2⟩ := g3 r' h1 h2
        constructor
        · simp only [List.map_cons, mset, wrowM, h, if_false, List.set_cons_succ] at k1 ⊢
          rw [k1]
        · simp only [List.map_cons, wireAdd, wrowK, h, if_false, List.set_cons_succ] at k2 ⊢
          rw [k2]
      · right
        refine ⟨by simpa [mfind, wrowM, h] using g2, fun r' h1 h2 => ?_⟩
        obtain ⟨k1, k2⟩ := g3 r' h1 h2
        constructor
        · simp only [List.map_cons, mset, wrowM, h, if_false, List.cons_append] at k1 ⊢
          rw [k1]
        · simp only [List.map_cons, wireAdd, wrowK, h, if_false, List.cons_append] at k2 ⊢
          rw [k2]

theorem set_perm {α : Type} {l : List α} {j : Nat} {x : α} (y : α) (h : l[j]? = some x) : (l.set j y).Perm (y :: l.eraseIdx j) := by
  induction l generalizing j with
  | nil => simp at h
  | cons z l ih =>
    cases j with
    | zero => simp
    | succ j =>
      simp only [List.getElem?_cons_succ] at h
      simp only [List.set_cons_succ, List.eraseIdx_cons_succ]
      exact ((ih h).cons z).trans (.swap _ _ _)

theorem wset_le {R : List WRow} {j : Nat} {r : WRow} (s : Syn) (p' : Option Addr) (cap' : Nat) (hj : R[j]? = some r) {H : HP} (h : HLe (.vec p' (r.l.length + 1) cap' 96 4 (flat synV r.l ++ synV s) :: (R.eraseIdx j).map wrowE) H) :
    HLe ((R.set j ⟨r.key, p', cap', r.l ++ [s]⟩).map wrowE) H := by
  refine h.permL ?_
  have := (set_perm (⟨r.key, p', cap', r.l ++ [s]⟩ : WRow) hj).map wrowE
  simpa [wrowE, flat] using this

theorem wadd_le {R : List WRow} (k : Int) (s : Syn) (p' : Option Addr) (cap' : Nat) {H : HP} (h : HLe (.vec p' 1 cap' 96 4 (synV s) :: R.map wrowE) H) :
    HLe ((R ++ [(⟨k, p', cap', [s]⟩ : WRow)]).map wrowE) H := by
  refine h.permL ?_
  simp only [List.map_append, List.append_nil, List.map_cons, List.map_nil]
  simp [wrowE, flat]

structure WOk (R : List WRow) : Prop where
  pos : ∀ r ∈ R, 0 < r.l.length
  ptr : ∀ r ∈ R, ∃ g, r.p = some ⟨g, 0, none⟩

theorem wired_any (N : Net) (hs1 : N.syns.length ≤ 8192) (nv : Value) (qs : Option Addr) (cs bs os : Nat) (w : World) (h2 : Sl w synV 4 N.syns qs N.syns.length bs os) :
    Calls Try.prog 66 #[.agg #[nv, .int .i64 N.inputs, .slice qs N.syns.length cs]] w fun e w' => ∃ x : Nat × List WRow, e = .returned (.map (some x.1)) ∧ (WOk x.2 ∧ x.2.map wrowK = wire N.syns) ∧ St w [] (.map x.1 (x.2.map wrowM) :: x.2.map wrowE) w' := by
  refine enter (C := Try.cx) (F := Try.fx66) (args := [_]) Try.func66 rfl rfl rfl Try.ok66 (St.start w []) ?_
  refine VSeq.go ?_
  repeat' (conv => whnf); first
    | (refine VNew.is ?_; refine VNew.mk fun b1 => ?_)
    | (refine VB.is ?_; refine VB.split (fun _ => ?_) (fun h => absurd (by omega) h))
    | (refine VB.is ?_; refine VB.split (fun h => absurd h (by omega)) (fun _ => ?_))
    | (refine VB.is ?_; refine VB.split (fun _ => ?_) (fun _ => ?_))
    | (refine boolE_split (fun h => ?_) (fun h => ?_) <;> subst h)
    | (refine VLd.is ?_; refine VLd.mk (.row (by repeat (first | exact At.here | apply At.there | with_reducible apply At.app | with_reducible apply At.app2)) (by rfl)) ?_)
    | (refine VSt.is ?_; refine VSt.row (by repeat (first | exact At.here | apply At.there | with_reducible apply At.app | with_reducible apply At.app2)) (by rfl) (by first | rfl | assumption) ?_)
    | (refine VNew.is ?_; refine VNew.mk fun _ => ?_)
    | (refine VAr.is ?_; refine VAr.i64 (by omega) (by omega) ?_)
    | (refine VIx.is ?_; refine VIx.mk rfl (by omega) (by omega) ?_)
    | (refine VKeep.is ?_; refine VKeep.mk (by repeat (first | exact HLe.nil | exact HLe.refl _ | refine HLe.nilv ?_ | (with_reducible refine HLe.seg ?_ ?_; (focus (repeat (first | with_reducible exact AtS.here | with_reducible exact AtS.here2 | exact AtS.last | apply AtS.there | with_reducible apply AtS.app | with_reducible apply AtS.app2)))) | refine HLe.cons (by repeat (first | exact At.here | apply At.there | with_reducible apply At.app | with_reducible apply At.app2)) ?_ | refine HLe.seg (by repeat (first | with_reducible exact AtS.here | with_reducible exact AtS.here2 | exact AtS.last | apply AtS.there | with_reducible apply AtS.app | with_reducible apply AtS.app2)) ?_ | exact HLe.last (by repeat (first | with_reducible exact AtS.here | with_reducible exact AtS.here2 | exact AtS.last | apply AtS.there | with_reducible apply AtS.app | with_reducible apply AtS.app2)))) ?_)
    | (refine VHs.is ?_; refine VHs.mk _ (HLe.refl _) ?_)
    | (refine VQ.is ?_; refine VQ.pos (by omega) (by omega) (by omega) ?_)
    | (refine VM.is ?_; refine VM.pos (by omega) (by omega) ?_)
    | (refine And.intro ?_ ?_)
  all_goals (conv => whnf)
  repeat' (conv => whnf); first
    | (refine VNew.is ?_; refine VNew.mk fun bw => ?_)
    | (refine VSeq.is ?_; refine VSeq.go ?_)
    | (refine VB.is ?_; refine VB.split (fun _ => ?_) (fun h => absurd (by omega) h))
    | (refine VB.is ?_; refine VB.split (fun h => absurd h (by omega)) (fun _ => ?_))
    | (refine VB.is ?_; refine VB.split (fun _ => ?_) (fun _ => ?_))
    | (refine boolE_split (fun h => ?_) (fun h => ?_) <;> subst h)
    | (refine VLd.is ?_; refine VLd.mk (.row (by repeat (first | exact At.here | apply At.there | with_reducible apply At.app | with_reducible apply At.app2)) (by rfl)) ?_)
    | (refine VSt.is ?_; refine VSt.row (by repeat (first | exact At.here | apply At.there | with_reducible apply At.app | with_reducible apply At.app2)) (by rfl) (by first | rfl | assumption) ?_)
    | (refine VNew.is ?_; refine VNew.mk fun _ => ?_)
    | (refine VAr.is ?_; refine VAr.i64 (by omega) (by omega) ?_)
    | (refine VIx.is ?_; refine VIx.mk rfl (by omega) (by omega) ?_)
    | (refine VKeep.is ?_; refine VKeep.mk (by repeat (first | exact HLe.nil | exact HLe.refl _ | refine HLe.nilv ?_ | (with_reducible refine HLe.seg ?_ ?_; (focus (repeat (first | with_reducible exact AtS.here | with_reducible exact AtS.here2 | exact AtS.last | apply AtS.there | with_reducible apply AtS.app | with_reducible apply AtS.app2)))) | refine HLe.cons (by repeat (first | exact At.here | apply At.there | with_reducible apply At.app | with_reducible apply At.app2)) ?_ | refine HLe.seg (by repeat (first | with_reducible exact AtS.here | with_reducible exact AtS.here2 | exact AtS.last | apply AtS.there | with_reducible apply AtS.app | with_reducible apply AtS.app2)) ?_ | exact HLe.last (by repeat (first | with_reducible exact AtS.here | with_reducible exact AtS.here2 | exact AtS.last | apply AtS.there | with_reducible apply AtS.app | with_reducible apply AtS.app2)))) ?_)
    | (refine VHs.is ?_; refine VHs.mk _ (HLe.refl _) ?_)
    | (refine VQ.is ?_; refine VQ.pos (by omega) (by omega) (by omega) ?_)
    | (refine VM.is ?_; refine VM.pos (by omega) (by omega) ?_)
    | (refine And.intro ?_ ?_)
  all_goals (conv => whnf)
  refine VLoop.mk (α := Nat × List WRow) (fun x => x.1 ≤ N.syns.length ∧ WOk x.2 ∧ x.2.map wrowK = wire (N.syns.take x.1) ∧ ∀ r ∈ x.2, r.l.length ≤ x.1)
    (fun x => [(1000000, .tuple #[]), (1, .pointer (some ⟨b1, 0, none⟩)), (3, .map (some bw)), (8, .slice qs N.syns.length cs), (9, .int .i64 (N.syns.length : Int)), (10, .int .i64 (x.1 : Int))])
    (fun x => .row b1 25 [nv, .int .i64 N.inputs, .slice qs N.syns.length cs] :: .map bw (x.2.map wrowM) :: x.2.map wrowE) (fun x => N.syns.length - x.1) (0, []) ⟨by omega, ⟨by simp, by simp⟩, rfl, by simp⟩ (by repeat (first | exact trivial | refine ⟨rfl, ?_⟩)) (by repeat (first | exact HLe.nil | exact HLe.refl _ | refine HLe.nilv ?_ | (with_reducible refine HLe.seg ?_ ?_; (focus (repeat (first | with_reducible exact AtS.here | with_reducible exact AtS.here2 | exact AtS.last | apply AtS.there | with_reducible apply AtS.app | with_reducible apply AtS.app2)))) | refine HLe.cons (by repeat (first | exact At.here | apply At.there | with_reducible apply At.app | with_reducible apply At.app2)) ?_ | refine HLe.seg (by repeat (first | with_reducible exact AtS.here | with_reducible exact AtS.here2 | exact AtS.last | apply AtS.there | with_reducible apply AtS.app | with_reducible apply AtS.app2)) ?_ | exact HLe.last (by repeat (first | with_reducible exact AtS.here | with_reducible exact AtS.here2 | exact AtS.last | apply AtS.there | with_reducible apply AtS.app | with_reducible apply AtS.app2)))) ?_
  rintro ⟨i, R⟩ ⟨hi, hok, hR, hlen⟩
  dsimp only at *
  rcases Nat.lt_or_ge i N.syns.length with hlt | hge
  · obtain ⟨s, hs⟩ := h2.get hlt
    have hone : ∀ v ∈ synV s, v.oneCell' = true := by simp [synV, Value.oneCell']
    rcases wrow_cases R s with ⟨j, r, hj, hm, hset⟩ | ⟨hm, hset⟩
    · have hrl := hlen r (List.mem_of_getElem? hj)
      repeat' (conv => whnf); first
        | (refine VNew.is ?_; refine VNew.mk fun b5 => ?_)
        | (refine VIx.is ?_; refine VIx.mk (h2.ptr (by omega)) (by omega) (by omega) ?_)
        | (refine VLd.is ?_; refine VLd.mk (h2.rd0 (by simp) (fun _ => rfl) hs rfl) ?_)
        | (refine VHs.is ?_; refine VHs.mk [.row b5 96 (synV s), .map bw (R.map wrowM)] (by repeat (first | exact HLe.nil | exact HLe.refl _ | refine HLe.nilv ?_ | (with_reducible refine HLe.seg ?_ ?_; (focus (repeat (first | with_reducible exact AtS.here | with_reducible exact AtS.here2 | exact AtS.last | apply AtS.there | with_reducible apply AtS.app | with_reducible apply AtS.app2)))) | refine HLe.cons (by repeat (first | exact At.here | apply At.there | with_reducible apply At.app | with_reducible apply At.app2)) ?_ | refine HLe.seg (by repeat (first | with_reducible exact AtS.here | with_reducible exact AtS.here2 | exact AtS.last | apply AtS.there | with_reducible apply AtS.app | with_reducible apply AtS.app2)) ?_ | exact HLe.last (by repeat (first | with_reducible exact AtS.here | with_reducible exact AtS.here2 | exact AtS.last | apply AtS.there | with_reducible apply AtS.app | with_reducible apply AtS.app2)))) ?_)
        | (refine VMp.is ?_; refine VMp.mk (by repeat (first | exact At.here | apply At.there | with_reducible apply At.app | with_reducible apply At.app2)) ?_)
        | (refine VLk.is ?_; refine VLk.has hm ?_)
        | (refine VAp.is ?_; refine VAp.seg (f := wrowE) (l := R) (by repeat (first | with_reducible exact AtS.here | with_reducible exact AtS.here2 | exact AtS.last | apply AtS.there | with_reducible apply AtS.app | with_reducible apply AtS.app2)) hj rfl (.at_ (.vec (by repeat (first | exact At.here | apply At.there | with_reducible apply At.app | with_reducible apply At.app2)) rfl)) hone (by (try dsimp only); omega) (by simp only [maxLen]; omega) fun p' cap' hp' => ?_)
        | (refine VMpU.is ?_; refine VMpU.mk (by repeat (first | exact At.here | apply At.there | with_reducible apply At.app | with_reducible apply At.app2)) ?_)
        | (refine VSeq.is ?_; refine VSeq.go ?_)
        | (refine VB.is ?_; refine VB.split (fun _ => ?_) (fun h => absurd (by omega) h))
        | (refine VB.is ?_; refine VB.split (fun h => absurd h (by omega)) (fun _ => ?_))
        | (refine VB.is ?_; refine VB.split (fun _ => ?_) (fun _ => ?_))
        | (refine boolE_split (fun h => ?_) (fun h => ?_) <;> subst h)
        | (refine VLd.is ?_; refine VLd.mk (.row (by repeat (first | exact At.here | apply At.there | with_reducible apply At.app | with_reducible apply At.app2)) (by rfl)) ?_)
        | (refine VSt.is ?_; refine VSt.row (by repeat (first | exact At.here | apply At.there | with_reducible apply At.app | with_reducible apply At.app2)) (by rfl) (by first | rfl | assumption) ?_)
        | (refine VNew.is ?_; refine VNew.mk fun _ => ?_)
        | (refine VAr.is ?_; refine VAr.i64 (by omega) (by omega) ?_)
        | (refine VIx.is ?_; refine VIx.mk rfl (by omega) (by omega) ?_)
        | (refine VKeep.is ?_; refine VKeep.mk (by repeat (first | exact HLe.nil | exact HLe.refl _ | refine HLe.nilv ?_ | (with_reducible refine HLe.seg ?_ ?_; (focus (repeat (first | with_reducible exact AtS.here | with_reducible exact AtS.here2 | exact AtS.last | apply AtS.there | with_reducible apply AtS.app | with_reducible apply AtS.app2)))) | refine HLe.cons (by repeat (first | exact At.here | apply At.there | with_reducible apply At.app | with_reducible apply At.app2)) ?_ | refine HLe.seg (by repeat (first | with_reducible exact AtS.here | with_reducible exact AtS.here2 | exact AtS.last | apply AtS.there | with_reducible apply AtS.app | with_reducible apply AtS.app2)) ?_ | exact HLe.last (by repeat (first | with_reducible exact AtS.here | with_reducible exact AtS.here2 | exact AtS.last | apply AtS.there | with_reducible apply AtS.app | with_reducible apply AtS.app2)))) ?_)
        | (refine VHs.is ?_; refine VHs.mk _ (HLe.refl _) ?_)
        | (refine VQ.is ?_; refine VQ.pos (by omega) (by omega) (by omega) ?_)
        | (refine VM.is ?_; refine VM.pos (by omega) (by omega) ?_)
        | (refine And.intro ?_ ?_)
      all_goals (conv => whnf)
      have hz := hset ⟨r.key, p', cap', r.l ++ [s]⟩ rfl rfl
      have hv : wrowV ⟨r.key, p', cap', r.l ++ [s]⟩ = .slice p' (r.l.length + 1) cap' := by simp [wrowV]
      rw [hv] at hz
      refine VNext.mk (i + 1, R.set j ⟨r.key, p', cap', r.l ++ [s]⟩) ⟨by omega, ⟨fun q hq => ?_, fun q hq => ?_⟩, by rw [← hz.2, hR, wire_take hs], fun q hq => ?_⟩ (by (try dsimp only); omega) (by repeat (first | exact trivial | refine ⟨rfl, ?_⟩)) ?_
      · rcases List.mem_or_eq_of_mem_set hq with h | rfl
        · exact hok.pos q h
        · simp
      · rcases List.mem_or_eq_of_mem_set hq with h | rfl
        · exact hok.ptr q h
        · exact hp' (by omega)
      · rcases List.mem_or_eq_of_mem_set hq with h | rfl
        · have := hlen q h; omega
        · simp; omega
      · dsimp only
        rw [← hz.1]
        refine HLe.cons (by repeat (first | exact At.here | apply At.there | with_reducible apply At.app | with_reducible apply At.app2)) (HLe.cons (by repeat (first | exact At.here | apply At.there | with_reducible apply At.app | with_reducible apply At.app2)) (wset_le s p' cap' hj ?_))
        repeat (first | exact HLe.nil | exact HLe.refl _ | refine HLe.nilv ?_ | (with_reducible refine HLe.seg ?_ ?_; (focus (repeat (first | with_reducible exact AtS.here | with_reducible exact AtS.here2 | exact AtS.last | apply AtS.there | with_reducible apply AtS.app | with_reducible apply AtS.app2)))) | refine HLe.cons (by repeat (first | exact At.here | apply At.there | with_reducible apply At.app | with_reducible apply At.app2)) ?_ | refine HLe.seg (by repeat (first | with_reducible exact AtS.here | with_reducible exact AtS.here2 | exact AtS.last | apply AtS.there | with_reducible apply AtS.app | with_reducible apply AtS.app2)) ?_ | exact HLe.last (by repeat (first | with_reducible exact AtS.here | with_reducible exact AtS.here2 | exact AtS.last | apply AtS.there | with_reducible apply AtS.app | with_reducible apply AtS.app2)))
    · repeat' (conv => whnf); first
        | (refine VNew.is ?_; refine VNew.mk fun b5 => ?_)
        | (refine VIx.is ?_; refine VIx.mk (h2.ptr (by omega)) (by omega) (by omega) ?_)
        | (refine VLd.is ?_; refine VLd.mk (h2.rd0 (by simp) (fun _ => rfl) hs rfl) ?_)
        | (refine VHs.is ?_; refine VHs.mk [.row b5 96 (synV s), .map bw (R.map wrowM)] (by repeat (first | exact HLe.nil | exact HLe.refl _ | refine HLe.nilv ?_ | (with_reducible refine HLe.seg ?_ ?_; (focus (repeat (first | with_reducible exact AtS.here | with_reducible exact AtS.here2 | exact AtS.last | apply AtS.there | with_reducible apply AtS.app | with_reducible apply AtS.app2)))) | refine HLe.cons (by repeat (first | exact At.here | apply At.there | with_reducible apply At.app | with_reducible apply At.app2)) ?_ | refine HLe.seg (by repeat (first | with_reducible exact AtS.here | with_reducible exact AtS.here2 | exact AtS.last | apply AtS.there | with_reducible apply AtS.app | with_reducible apply AtS.app2)) ?_ | exact HLe.last (by repeat (first | with_reducible exact AtS.here | with_reducible exact AtS.here2 | exact AtS.last | apply AtS.there | with_reducible apply AtS.app | with_reducible apply AtS.app2)))) ?_)
        | (refine VMp.is ?_; refine VMp.mk (by repeat (first | exact At.here | apply At.there | with_reducible apply At.app | with_reducible apply At.app2)) ?_)
        | (refine VLk.is ?_; refine VLk.lacks hm ?_)
        | (refine VAp.is ?_; refine VAp.nil rfl rfl rfl (.at_ (.vec (by repeat (first | exact At.here | apply At.there | with_reducible apply At.app | with_reducible apply At.app2)) rfl)) hone (by (try dsimp only); omega) (by simp only [maxLen]; omega) fun p' cap' hp' => ?_)
        | (refine VMpU.is ?_; refine VMpU.mk (by repeat (first | exact At.here | apply At.there | with_reducible apply At.app | with_reducible apply At.app2)) ?_)
        | (refine VSeq.is ?_; refine VSeq.go ?_)
        | (refine VB.is ?_; refine VB.split (fun _ => ?_) (fun h => absurd (by omega) h))
        | (refine VB.is ?_; refine VB.split (fun h => absurd h (by omega)) (fun _ => ?_))
        | (refine VB.is ?_; refine VB.split (fun _ => ?_) (fun _ => ?_))
        | (refine boolE_split (fun h => ?_) (fun h => ?_) <;> subst h)
        | (refine VLd.is ?_; refine VLd.mk (.row (by repeat (first | exact At.here | apply At.there | with_reducible apply At.app | with_reducible apply At.app2)) (by rfl)) ?_)
        | (refine VSt.is ?_; refine VSt.row (by repeat (first | exact At.here | apply At.there | with_reducible apply At.app | with_reducible apply At.app2)) (by rfl) (by first | rfl | assumption) ?_)
        | (refine VNew.is ?_; refine VNew.mk fun _ => ?_)
        | (refine VAr.is ?_; refine VAr.i64 (by omega) (by omega) ?_)
        | (refine VIx.is ?_; refine VIx.mk rfl (by omega) (by omega) ?_)
        | (refine VKeep.is ?_; refine VKeep.mk (by repeat (first | exact HLe.nil | exact HLe.refl _ | refine HLe.nilv ?_ | (with_reducible refine HLe.seg ?_ ?_; (focus (repeat (first | with_reducible exact AtS.here | with_reducible exact AtS.here2 | exact AtS.last | apply AtS.there | with_reducible apply AtS.app | with_reducible apply AtS.app2)))) | refine HLe.cons (by repeat (first | exact At.here | apply At.there | with_reducible apply At.app | with_reducible apply At.app2)) ?_ | refine HLe.seg (by repeat (first | with_reducible exact AtS.here | with_reducible exact AtS.here2 | exact AtS.last | apply AtS.there | with_reducible apply AtS.app | with_reducible apply AtS.app2)) ?_ | exact HLe.last (by repeat (first | with_reducible exact AtS.here | with_reducible exact AtS.here2 | exact AtS.last | apply AtS.there | with_reducible apply AtS.app | with_reducible apply AtS.app2)))) ?_)
        | (refine VHs.is ?_; refine VHs.mk _ (HLe.refl _) ?_)
        | (refine VQ.is ?_; refine VQ.pos (by omega) (by omega) (by omega) ?_)
        | (refine VM.is ?_; refine VM.pos (by omega) (by omega) ?_)
        | (refine And.intro ?_ ?_)
      all_goals (conv => whnf)
      have hz := hset ⟨s.frm, p', cap', [s]⟩ rfl rfl
      refine VNext.mk (i + 1, R ++ [⟨s.frm, p', cap', [s]⟩]) ⟨by omega, ⟨fun q hq => ?_, fun q hq => ?_⟩, by rw [← hz.2, hR, wire_take hs], fun q hq => ?_⟩ (by (try dsimp only); omega) (by repeat (first | exact trivial | refine ⟨rfl, ?_⟩)) ?_
      · rcases List.mem_append.1 hq with h | h
        · exact hok.pos q h
        · simp only [List.mem_singleton] at h; subst h; simp
      · rcases List.mem_append.1 hq with h | h
        · exact hok.ptr q h
        · simp only [List.mem_singleton] at h; subst h; exact hp' (by omega)
      · rcases List.mem_append.1 hq with h | h
        · have := hlen q h; omega
        · simp only [List.mem_singleton] at h; subst h; simp
      · dsimp only
        rw [← hz.1]
        refine HLe.cons (by repeat (first | exact At.here | apply At.there | with_reducible apply At.app | with_reducible apply At.app2)) (HLe.cons (by repeat (first | exact At.here | apply At.there | with_reducible apply At.app | with_reducible apply At.app2)) (wadd_le s.frm s p' cap' ?_))
        repeat (first | exact HLe.nil | exact HLe.refl _ | refine HLe.nilv ?_ | (with_reducible refine HLe.seg ?_ ?_; (focus (repeat (first | with_reducible exact AtS.here | with_reducible exact AtS.here2 | exact AtS.last | apply AtS.there | with_reducible apply AtS.app | with_reducible apply AtS.app2)))) | refine HLe.cons (by repeat (first | exact At.here | apply At.there | with_reducible apply At.app | with_reducible apply At.app2)) ?_ | refine HLe.seg (by repeat (first | with_reducible exact AtS.here | with_reducible exact AtS.here2 | exact AtS.last | apply AtS.there | with_reducible apply AtS.app | with_reducible apply AtS.app2)) ?_ | exact HLe.last (by repeat (first | with_reducible exact AtS.here | with_reducible exact AtS.here2 | exact AtS.last | apply AtS.there | with_reducible apply AtS.app | with_reducible apply AtS.app2)))
  · repeat' (conv => whnf); first
      | (refine VSeq.is ?_; refine VSeq.go ?_)
      | (refine VB.is ?_; refine VB.split (fun _ => ?_) (fun h => absurd (by omega) h))
      | (refine VB.is ?_; refine VB.split (fun h => absurd h (by omega)) (fun _ => ?_))
      | (refine VB.is ?_; refine VB.split (fun _ => ?_) (fun _ => ?_))
      | (refine boolE_split (fun h => ?_) (fun h => ?_) <;> subst h)
      | (refine VLd.is ?_; refine VLd.mk (.row (by repeat (first | exact At.here | apply At.there | with_reducible apply At.app | with_reducible apply At.app2)) (by rfl)) ?_)
      | (refine VSt.is ?_; refine VSt.row (by repeat (first | exact At.here | apply At.there | with_reducible apply At.app | with_reducible apply At.app2)) (by rfl) (by first | rfl | assumption) ?_)
      | (refine VNew.is ?_; refine VNew.mk fun _ => ?_)
      | (refine VAr.is ?_; refine VAr.i64 (by omega) (by omega) ?_)
      | (refine VIx.is ?_; refine VIx.mk rfl (by omega) (by omega) ?_)
      | (refine VKeep.is ?_; refine VKeep.mk (by repeat (first | exact HLe.nil | exact HLe.refl _ | refine HLe.nilv ?_ | (with_reducible refine HLe.seg ?_ ?_; (focus (repeat (first | with_reducible exact AtS.here | with_reducible exact AtS.here2 | exact AtS.last | apply AtS.there | with_reducible apply AtS.app | with_reducible apply AtS.app2)))) | refine HLe.cons (by repeat (first | exact At.here | apply At.there | with_reducible apply At.app | with_reducible apply At.app2)) ?_ | refine HLe.seg (by repeat (first | with_reducible exact AtS.here | with_reducible exact AtS.here2 | exact AtS.last | apply AtS.there | with_reducible apply AtS.app | with_reducible apply AtS.app2)) ?_ | exact HLe.last (by repeat (first | with_reducible exact AtS.here | with_reducible exact AtS.here2 | exact AtS.last | apply AtS.there | with_reducible apply AtS.app | with_reducible apply AtS.app2)))) ?_)
      | (refine VHs.is ?_; refine VHs.mk _ (HLe.refl _) ?_)
      | (refine VQ.is ?_; refine VQ.pos (by omega) (by omega) (by omega) ?_)
      | (refine VM.is ?_; refine VM.pos (by omega) (by omega) ?_)
      | (refine And.intro ?_ ?_)
    all_goals (conv => whnf)
    refine ⟨fun w' hw' => ⟨(bw, R), rfl, ⟨hok, ?_⟩, hw'.le (by repeat (first | exact HLe.nil | exact HLe.refl _ | refine HLe.nilv ?_ | (with_reducible refine HLe.seg ?_ ?_; (focus (repeat (first | with_reducible exact AtS.here | with_reducible exact AtS.here2 | exact AtS.last | apply AtS.there | with_reducible apply AtS.app | with_reducible apply AtS.app2)))) | refine HLe.cons (by repeat (first | exact At.here | apply At.there | with_reducible apply At.app | with_reducible apply At.app2)) ?_ | refine HLe.seg (by repeat (first | with_reducible exact AtS.here | with_reducible exact AtS.here2 | exact AtS.last | apply AtS.there | with_reducible apply AtS.app | with_reducible apply AtS.app2)) ?_ | exact HLe.last (by repeat (first | with_reducible exact AtS.here | with_reducible exact AtS.here2 | exact AtS.last | apply AtS.there | with_reducible apply AtS.app | with_reducible apply AtS.app2))))⟩⟩
    rw [hR, List.take_of_length_le hge]

end Go.Proofs
