/- Drv6: look and send, as they are called. -/
import Derived.Test.YtbnipfgbfnhibaaGd
set_option linter.unusedVariables false
set_option linter.unusedSimpArgs false
namespace Go.Proofs
open Go Go.Vx Go.Gm

theorem _root_.Go.Vx.VCall.le {P : Program} {w0 : World} {M : List Nat} {H H' : HP} {f : Nat} {args : List Value} {K : Value → HP → Prop} (hl : HLe H' H) (h : VCall P w0 M H' f args K) : VCall P w0 M H f args K := by
  cases h with
  | mk h => exact .mk fun w hw => h w (hw.le hl)

/-- What stands beside a run of blocks lies in none of them. -/
theorem _root_.Go.Vx.St.beside {w0 w : World} {M : List Nat} {A S : HP} (hs : St w0 M (A ++ S) w) {x : Ent} (hx : x ∈ A) {b : Nat} (hb : x.id = some b) : b ∉ ids S := by
  have hn := hs.nodup
  rw [ids_app] at hn
  exact fun hin => (List.nodup_append.1 hn).2.2 b (List.mem_filterMap.2 ⟨x, hx, hb⟩) b hin rfl

theorem look_call {w0 : World} {M : List Nat} {H R0 : HP} {K : Value → HP → Prop} (bc gc n ccap : Nat) (vw : Value) (bd : Nat) (cs : List CellM) (p : Option Addr) (cap : Nat) (A : List Evt) (Q : List DueRow) (T i : Nat) (c : CellM) (hi : cs[i]? = some c) (hn : cs.length = n) (hl : n ≤ 1024) (hA : HeapOk A) (hAl : A.length ≤ 4398046511104)
    (hpp : 0 < A.length → ∃ g, p = some ⟨g, 0, none⟩) (hp : ParOk c.p) (hso : staOk c.p c.s) (hT : T < 1073741824) (hct : c.tick ≤ 1073741824) (hact : ¬ lookSkip c (dueAt Q T i) T → quiet c.p c.s (T - c.tick))
    (htk : Take H (courseS bc gc n ccap vw (.map (some bd)) cs p cap A) R0) (hle : HLe ((.map bd (Q.map dueM) :: Q.map dueE) ++ courseS bc gc n ccap vw (.map (some bd)) cs p cap A) H)
    (hk : ∀ y : LookY, LookRel cs i c (dueAt Q T i) T A y → (0 < y.A.length → ∃ g, y.p = some ⟨g, 0, none⟩) → K (.bool y.spk) (courseS bc gc n ccap vw (.map (some bd)) y.cells y.p y.cap y.A ++ R0)) :
    VCall Try.cx.P w0 M H 71 [.pointer (some ⟨bc, 0, none⟩), .agg #[.int .i64 (T : Int), .int .i64 (i : Int)]] K := by
  refine VCall.turnT (α := LookY) (fun y => .bool y.spk) (fun y => LookRel cs i c (dueAt Q T i) T A y ∧ (0 < y.A.length → ∃ g, y.p = some ⟨g, 0, none⟩)) (fun y => courseS bc gc n ccap vw (.map (some bd)) y.cells y.p y.cap y.A) htk (fun w hw hs => ?_) (fun y hy => hk y hy.1 hy.2)
  have hst := hw.le hle
  refine look_any bc gc n ccap vw bd cs p cap A Q T i c hi hn hl hA hAl hpp hp hso hT hct hact w hs (hst.own (.map bd (Q.map dueM)) (by simp)) (hst.beside (x := .map bd (Q.map dueM)) (by simp) rfl) fun r hr => ?_
  have hm : dueE r ∈ (Ent.map bd (Q.map dueM) :: Q.map dueE) := List.mem_cons_of_mem _ (List.mem_map_of_mem hr)
  exact ⟨hst.own (dueE r) (List.mem_append_left _ hm), hst.beside hm rfl⟩

theorem send_call {w0 : World} {M : List Nat} {H R0 : HP} {K : Value → HP → Prop} (N : Net) (hN : NetOk N) (bc : Nat) (vc : Value) (bw bd : Nat) (R : List WRow) (hWO : WOk R) (hW : R.map wrowK = wire N.syns) (p : Option Addr) (cap : Nat) (A : List Evt) (Q : List DueRow) (T : Nat) (hT : T ≤ 1073741824) (sp ins : List Int)
    (pn : Option Addr) (cn : Nat) (pi : Option Addr) (ni ci : Nat) (hni : ni = ins.length) (nn : Nat) (hnn : nn = sp.length) (hsl : sp.length ≤ 65536) (hil : ins.length ≤ 65536) (hinr : ∀ k ∈ ins, 0 ≤ k ∧ k ≤ 256) (hA : HeapOk A) (hAl : A.length + (yields (wire N.syns) (sp ++ ins.map fun k => -1 - k)).length ≤ 4398046511104) (hpp : 0 < A.length → ∃ g, p = some ⟨g, 0, none⟩)
    (htk : Take H (dueS bc vc (.map (some bw)) bd p cap A Q) R0) (hle : HLe ((.map bw (R.map wrowM) :: R.map wrowE) ++ dueS bc vc (.map (some bw)) bd p cap A Q) H)
    (h1 : HLe (.vec pn nn cn 3 1 (flat intV sp) :: dueS bc vc (.map (some bw)) bd p cap A Q) H) (h2 : HLe (.vec pi ni ci 3 1 (flat intV ins) :: dueS bc vc (.map (some bw)) bd p cap A Q) H)
    (hk : ∀ y : DueY, Adds T Q A (yields (wire N.syns) (sp ++ ins.map fun k => -1 - k)) y.Q y.A → (0 < y.A.length → ∃ g, y.p = some ⟨g, 0, none⟩) → K (.tuple #[]) (dueS bc vc (.map (some bw)) bd y.p y.cap y.A y.Q ++ R0)) :
    VCall Try.cx.P w0 M H 73 [.pointer (some ⟨bc, 0, none⟩), .int .i64 (T : Int), .slice pn nn cn, .slice pi ni ci] K := by
  subst hni
  subst hnn
  refine VCall.turnT (α := DueY) (fun _ => .tuple #[]) (fun y => Adds T Q A (yields (wire N.syns) (sp ++ ins.map fun k => -1 - k)) y.Q y.A ∧ (0 < y.A.length → ∃ g, y.p = some ⟨g, 0, none⟩)) (fun y => dueS bc vc (.map (some bw)) bd y.p y.cap y.A y.Q) htk (fun w hw hs => ?_) (fun y hy => hk y hy.1 hy.2)
  have hst := hw.le hle
  obtain ⟨bn, g1, g2⟩ := Sl.vecOut hw h1 (fun _ => rfl) rfl
  obtain ⟨bi, g3, g4⟩ := Sl.vecOut hw h2 (fun _ => rfl) rfl
  have hwi : WiOk w (ids (dueS bc vc (.map (some bw)) bd p cap A Q)) bw R := by
    refine ⟨hst.own (.map bw (R.map wrowM)) (by simp), hst.beside (x := .map bw (R.map wrowM)) (by simp) rfl, fun r hr => ?_⟩
    obtain ⟨g, hg⟩ := hWO.ptr r hr
    have hm : wrowE r ∈ (Ent.map bw (R.map wrowM) :: R.map wrowE) := List.mem_cons_of_mem _ (List.mem_map_of_mem hr)
    have h4 := List.mem_append_left (dueS bc vc (.map (some bw)) bd p cap A Q) hm
    unfold wrowE at hm h4
    rw [hg] at hm h4 ⊢
    exact ⟨g, rfl, Sl.own' hst h4 (fun _ => rfl) rfl, hst.beside hm rfl⟩
  exact send_any N hN bc vc bw bd R hW p cap A Q T hT sp ins pn cn bn pi ci bi hsl hil hinr hA hAl hpp w hs hwi g1 g2 g3 g4

theorem mdel_due {Q : List DueRow} {t : Int} (h : (Q.map (·.key)).Nodup) : mdel (Q.map dueM) t = (Q.filter fun r => r.key ≠ t).map dueM := by
  induction Q with
  | nil => rfl
  | cons r q ih =>
    simp only [List.map_cons, List.nodup_cons] at h
    simp only [List.map_cons, mdel, dueM]
    by_cases hk : r.key = t
    · rw [if_pos hk, List.filter_cons_of_neg (by simp [hk])]
      congr 1
      rw [List.filter_eq_self.2]
      intro x hx
      have : x.key ≠ t := fun e => h.1 (by rw [hk, ← e]; exact List.mem_map_of_mem hx)
      simpa using this
    · rw [if_neg hk, List.filter_cons_of_pos (by simpa using hk), List.map_cons, ← ih h.2]
      rfl

theorem filter_le {α : Type} {f : α → Ent} {Q : List α} (q : α → Bool) : HLe ((Q.filter q).map f) (Q.map f) := by
  refine HLe.of_sub ((Q.filter fun x => !q x).map f) ?_
  rw [← List.map_append]
  exact (List.filter_append_perm q Q).symm.map f

end Go.Proofs
