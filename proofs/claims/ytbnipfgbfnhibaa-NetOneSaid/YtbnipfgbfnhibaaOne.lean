/- One: steps of the laws, walked. -/
import Derived.Test.YtbnipfgbfnhibaaStp
import Derived.Test.YtbnipfgbfnhibaaGd
set_option linter.unusedVariables false
set_option linter.unusedSimpArgs false
namespace Go.Proofs
open Go Go.Vx Go.Gm

/-- The spikes of some ticks. -/
def seg (N : Net) (l : List Evt) (a : Nat) : Nat → List Evt
  | 0 => []
  | n + 1 => seg N l a n ++ (spkAt N l (a + n)).map fun i => ⟨((a + n : Nat) : Int), i⟩

theorem outTo_seg (N : Net) (l : List Evt) (a : Nat) : ∀ n, outTo N l (a + n) = outTo N l a ++ seg N l a n
  | 0 => by simp [seg]
  | n + 1 => by
    rw [← Nat.add_assoc, outTo, outTo_seg N l a n, seg, List.append_assoc]

theorem seg_zero (N : Net) (l : List Evt) (n : Nat) : seg N l 0 n = outTo N l n := by
  have := outTo_seg N l 0 n
  rw [Nat.zero_add] at this
  rw [this]
  simp [outTo]

theorem seg_mono (N : Net) (l : List Evt) (a n : Nat) : ∀ m, (seg N l a n).length ≤ (seg N l a (n + m)).length
  | 0 => Nat.le_refl _
  | m + 1 => by
    have := seg_mono N l a n m
    show _ ≤ (seg N l a (n + m) ++ _).length
    rw [List.length_append]
    omega

theorem ascErr_ok {m : Int} : ∀ {l : List Int} {p : Option Int}, (∀ k ∈ l, 0 ≤ k ∧ k < m) → l.Pairwise (· < ·) → (∀ q, p = some q → ∀ k ∈ l, q < k) → ascErr m p l = 0
  | [], _, _, _, _ => rfl
  | k :: r, p, h1, h2, h3 => by
    have hk := h1 k List.mem_cons_self
    have h2' := List.pairwise_cons.1 h2
    unfold ascErr
    rw [if_neg (by unfold inBad; omega), if_neg]
    · exact ascErr_ok (fun x hx => h1 x (List.mem_cons_of_mem _ hx)) h2'.2 (fun q hq x hx => by cases hq; exact h2'.1 x hx)
    · cases p with
      | none => exact fun h => h
      | some q => have := h3 q rfl k List.mem_cons_self; unfold inBehind; omega

theorem insAt_asc {inputs limit : Int} {l : List Evt} (hl : EvOk inputs limit l) (t : Nat) : ascErr inputs none (insAt l t) = 0 := by
  refine ascErr_ok (fun k hk => (insAt_few hl t).2 k hk) ?_ (by simp)
  unfold insAt
  rw [List.pairwise_map]
  have h1 := hl.sorted.sublist (List.filter_sublist (p := fun e : Evt => decide (e.tick = (t : Int))) (l := l))
  refine List.Pairwise.imp_of_mem (fun {a b} ha hb hab => ?_) h1
  have e1 := (List.mem_filter.1 ha).2
  have e2 := (List.mem_filter.1 hb).2
  simp only [decide_eq_true_eq] at e1 e2
  unfold evLt at hab
  omega

theorem TkInv.of {l : List Evt} {inputs limit : Int} (hl : EvOk inputs limit l) {T k : Nat} (hk : k ≤ l.length) (hp : ∀ e ∈ l.take k, e.tick < (T : Int)) (hr : ∀ x, l[k]? = some x → (T : Int) ≤ x.tick) : TkInv l T k := by
  refine ⟨hk, hp, fun e he => ?_⟩
  rcases Nat.lt_or_ge k l.length with hlt | hge
  · have hx : (l.drop k)[0]? = some l[k] := by rw [List.getElem?_drop, Nat.add_zero]; exact List.getElem?_eq_getElem hlt
    have := head_least hl hx e he
    have := hr l[k] (List.getElem?_eq_getElem hlt)
    omega
  · rw [List.drop_eq_nil_of_le hge] at he; simp at he

theorem ShOk.sub {w : World} {M M' : List Nat} {x : SimM} (h : ShOk w M x) (hM : ∀ b ∈ M', b ∈ M) : ShOk w M' x :=
  ⟨h.par, fun e => h.parM (hM _ e), h.map, fun e => h.mapM (hM _ e), fun r hr => by
    obtain ⟨g, h1, h2, h3⟩ := h.rows r hr
    exact ⟨g, h1, h2, fun e => h3 (hM _ e)⟩⟩

theorem ids_drows : ∀ D : List DRow, ids (D.map drowE) = D.map (·.g)
  | [] => rfl
  | d :: D => by
    have := ids_drows D
    simp only [List.map_cons]
    rw [← this]
    rfl

theorem ids_step (x : SimM) (ins : List Int) : ids (ownH (simStep x ins)) = ids (ownH x) := by
  have hV := simStep_V x ins
  have hg : (simStep x ins).D.map (·.g) = x.D.map (·.g) := by
    have h2 : ∀ D : List DRow, D.map (·.g) = (D.map drowV).map (fun v => match v with | .slice (some a) _ _ => a.block | _ => 0) := by
      intro D; rw [List.map_map]; rfl
    rw [h2, h2, hV]
  show ids (_ :: _ :: (simStep x ins).D.map drowE) = ids (_ :: _ :: x.D.map drowE)
  rw [show ids (Ent.row (simStep x ins).b 104 (simC (simStep x ins)) :: Ent.vec (some ⟨(simStep x ins).sb, 0, none⟩) (simStep x ins).sts.length (simStep x ins).sc 98 2 (flat staV (simStep x ins).sts) :: (simStep x ins).D.map drowE) = (simStep x ins).b :: (simStep x ins).sb :: ids ((simStep x ins).D.map drowE) from rfl]
  rw [show ids (Ent.row x.b 104 (simC x) :: Ent.vec (some ⟨x.sb, 0, none⟩) x.sts.length x.sc 98 2 (flat staV x.sts) :: x.D.map drowE) = x.b :: x.sb :: ids (x.D.map drowE) from rfl]
  rw [ids_drows, ids_drows, hg]
  rfl

theorem Step_call {w0 : World} {M : List Nat} {H : HP} {Z : HP → HP} {K : Value → HP → Prop} (y : SimM) (hy : SimRun y) (ins : List Int) (hil : ins.length < 9223372036854775807) (p : Option Addr) (n c : Nat) (hn : n = ins.length)
    (hat : AtS H (ownH y) Z) (hsh : ∀ w, St w0 M H w → ShOk w (ids (ownH y)) y) (hin : ∀ w, St w0 M H w → ∃ bi oi, Sl w intV 1 ins p ins.length bi oi ∧ bi ∉ ids (ownH y))
    (hk : ∀ q cap, (0 < (stepSpk y ins).length → ∃ g, q = some ⟨g, 0, none⟩) → K (.tuple #[.slice q (stepSpk y ins).length cap, .int .i64 (stepErr y ins)]) (.vec q (stepSpk y ins).length cap 3 1 (flat intV (stepSpk y ins)) :: Z (ownH (stepSim y ins)))) :
    VCall Try.cx.P w0 M H 40 [.pointer (some ⟨y.b, 0, none⟩), .slice p n c] K := by
  subst hn
  refine VCall.turnV (α := Option Addr × Nat) (fun z => .tuple #[.slice z.1 (stepSpk y ins).length z.2, .int .i64 (stepErr y ins)]) (fun z => 0 < (stepSpk y ins).length → ∃ g, z.1 = some ⟨g, 0, none⟩) (fun z => ownH (stepSim y ins)) (fun z => [.vec z.1 (stepSpk y ins).length z.2 3 1 (flat intV (stepSpk y ins))]) hat (fun w hw hs => ?_) (fun z hz => hk z.1 z.2 hz)
  obtain ⟨bi, oi, h1, h2⟩ := hin w hw
  exact Step_any y hy ins hil p c bi oi w hs (hsh w hw) h1 h2

/-- A simulation at the head of one of the ticks of steps. -/
structure StepsI (w : World) (M : List Nat) (x : SimM) (l : List Evt) (i k : Nat) (y : SimM) : Prop where
  run : SimRun y
  net : y.N = x.N
  b : y.b = x.b
  shr : shrH y = shrH x
  ids : ids (ownH y) = M
  sh : ShOk w M y
  tick : y.tick = x.tick + i
  st : smOf y = stAt x.N l (x.tick + i)
  kle : k ≤ l.length
  past : ∀ e ∈ l.take k, e.tick < ((x.tick + i : Nat) : Int)

set_option maxHeartbeats 1600000 in
theorem steps_any (x : SimM) (hx : SimRun x) (l : List Evt) {limit : Int} (hl : EvOk x.N.inputs limit l) (hlim : limit ≤ 1073741824) (n : Nat) (hn : x.tick + n ≤ 10000) (hst : smOf x = stAt x.N l x.tick) (hout : (seg x.N l x.tick n).length ≤ 65536) (pe : Option Addr) (ce be oe : Nat) (w : World)
    (hs : St w (ids (ownH x)) (ownH x) w) (hsh : ShOk w (ids (ownH x)) x) (h3 : Sl w evtV 2 l pe l.length be oe) (hbe : be ∉ ids (ownH x)) :
    Calls Try.prog 47 #[.pointer (some ⟨x.b, 0, none⟩), .slice pe l.length ce, .int .i64 (n : Int)] w fun e w' => ∃ y : SimM × Option Addr × Nat, e = .returned (.tuple #[.slice y.2.1 (seg x.N l x.tick n).length y.2.2, .bool true]) ∧
      (SimRun y.1 ∧ y.1.N = x.N ∧ y.1.b = x.b ∧ shrH y.1 = shrH x ∧ y.1.tick = x.tick + n ∧ smOf y.1 = stAt x.N l (x.tick + n)) ∧ St w (ids (ownH x)) (ownH y.1 ++ [.vec y.2.1 (seg x.N l x.tick n).length y.2.2 44 2 (flat evtV (seg x.N l x.tick n))]) w' := by
  obtain ⟨M, hM⟩ : ∃ M, ids (ownH x) = M := ⟨_, rfl⟩
  obtain ⟨N, hN⟩ : ∃ N, x.N = N := ⟨_, rfl⟩
  rw [hM] at hs hbe hsh ⊢
  rw [hN] at hl hst hout ⊢
  have hfew := hl.few
  refine enter (C := Try.cx) (F := Try.fx47) (args := [_, _, _]) Try.func47 rfl rfl rfl Try.ok47 hs ?_
  repeat' (conv => whnf); first | (refine VSeq.is ?_; refine VSeq.go ?_) | (refine VB.is ?_; refine VB.yes (by omega) fun _ => ?_) | (refine VB.is ?_; refine VB.no (by omega) fun _ => ?_) | (refine VB.is ?_; refine VB.split (fun _ => ?_) (fun _ => ?_)) | (refine boolE_split (fun h => ?_) (fun h => ?_) <;> subst h) | (refine VLd.is ?_; refine VLd.mk (.row (by repeat (first | exact aT0 | apply aT1 | with_reducible apply aT2 | with_reducible apply aT3)) (by rfl)) ?_) | (refine VSt.is ?_; refine VSt.row (by repeat (first | exact aT0 | apply aT1 | with_reducible apply aT2 | with_reducible apply aT3)) (by rfl) (by first | rfl | assumption) ?_) | (refine VNew.is ?_; refine VNew.mk fun _ => ?_) | (refine VAr.is ?_; refine VAr.i64 (by omega) (by omega) ?_) | (refine VIx.is ?_; refine VIx.mk rfl (by omega) (by omega) ?_) | (refine VKeep.is ?_; refine VKeep.mk (by repeat (first | exact HLe.nil | exact HLe.refl _ | refine HLe.nilv ?_ | (with_reducible refine HLe.seg ?_ ?_; (focus (repeat (first | with_reducible exact sT0 | with_reducible exact sT1 | exact sT2 | apply sT3 | with_reducible apply sT4 | with_reducible apply sT5)))) | refine HLe.cons (by repeat (first | exact aT0 | apply aT1 | with_reducible apply aT2 | with_reducible apply aT3)) ?_ | refine HLe.seg (by repeat (first | with_reducible exact sT0 | with_reducible exact sT1 | exact sT2 | apply sT3 | with_reducible apply sT4 | with_reducible apply sT5)) ?_ | exact HLe.last (by repeat (first | with_reducible exact sT0 | with_reducible exact sT1 | exact sT2 | apply sT3 | with_reducible apply sT4 | with_reducible apply sT5)))) ?_) | (refine VHs.is ?_; refine VHs.mk _ (HLe.refl _) ?_) | (refine VQ.is ?_; refine VQ.pos (by omega) (by omega) (by omega) ?_) | (refine VM.is ?_; refine VM.pos (by omega) (by omega) ?_) | (refine And.intro ?_ ?_)
  all_goals (conv => whnf)
  refine VLoop.kr (α := SimM × Nat × Nat × Option Addr × Nat) [1000000, 0, 1, 2, 6, 7] rfl (fun z => z.2.1 ≤ n ∧ StepsI w M x l z.2.1 z.2.2.1 z.1)
    (fun z K => (10, .int .i64 (z.2.1 : Int)) :: (9, .int .i64 (z.2.2.1 : Int)) :: (8, .slice z.2.2.2.1 (seg N l x.tick z.2.1).length z.2.2.2.2) :: K)
    (fun z => .vec z.2.2.2.1 (seg N l x.tick z.2.1).length z.2.2.2.2 44 2 (flat evtV (seg N l x.tick z.2.1)) :: ownH z.1) (fun z => n - z.2.1) (x, 0, 0, none, 0)
    ⟨by simp, ⟨hx, rfl, rfl, rfl, hM, hsh, rfl, by rw [hN]; exact hst, by simp, by simp⟩⟩ (by repeat (first | exact trivial | refine ⟨rfl, ?_⟩)) (by repeat (first | exact HLe.nil | exact HLe.refl _ | refine HLe.nilv ?_ | (with_reducible refine HLe.seg ?_ ?_; (focus (repeat (first | with_reducible exact sT0 | with_reducible exact sT1 | exact sT2 | apply sT3 | with_reducible apply sT4 | with_reducible apply sT5)))) | refine HLe.cons (by repeat (first | exact aT0 | apply aT1 | with_reducible apply aT2 | with_reducible apply aT3)) ?_ | refine HLe.seg (by repeat (first | with_reducible exact sT0 | with_reducible exact sT1 | exact sT2 | apply sT3 | with_reducible apply sT4 | with_reducible apply sT5)) ?_ | exact HLe.last (by repeat (first | with_reducible exact sT0 | with_reducible exact sT1 | exact sT2 | apply sT3 | with_reducible apply sT4 | with_reducible apply sT5)))) ?_
  rintro ⟨y, i, k, p, cap⟩ ⟨hi, hy⟩
  dsimp only at hi hy ⊢
  have hyr := hy.run
  have hyN := hy.net.trans hN
  have hyl := hyr.ok.sts
  have hyp := hyr.ok.net.some
  have h4 : sub (simC y) 4 1 = some [.int .i64 ((x.tick + i : Nat) : Int)] := by rw [← hy.tick]; rfl
  have h5 : sub (simC y) 5 1 = some [.slice (some ⟨y.sb, 0, none⟩) y.sts.length y.sc] := by rw [sub_mk _ _ _ (by simp [simC])]; rfl
  obtain ⟨T, hT⟩ : ∃ T, x.tick + i = T := ⟨_, rfl⟩
  rcases Nat.lt_or_ge i n with hlt | hge
  · have hyb := hy.b
    rw [← hyb]
    have hk0 := hy.kle
    have hst' := hy.st
    have hpast := hy.past
    rw [hT] at h4 hst' hpast
    rw [hN] at hst'
    have hT1 : T < 10000 := by omega
    have hinf0 := insAt_few hl T
    have hasc := insAt_asc hl T
    obtain ⟨ins, hI⟩ : ∃ ins, insAt l T = ins := ⟨_, rfl⟩
    rw [hI] at hinf0 hasc
    have hse : stepErr y ins = 0 := by
      unfold stepErr
      rw [if_neg (by rw [hy.tick]; omega), hyN]
      exact hasc
    have hss : stepSpk y ins = spk (simFire y) := by unfold stepSpk; rw [if_pos hse]
    have hsm : stepSim y ins = simStep y ins := by unfold stepSim; rw [if_pos hse]
    have hyt : y.tick = T := hy.tick.trans hT
    have hsp : spk (simFire y) = spkAt N l T := by
      show _ = ringSpk N T (stAt N l T)
      rw [← hst', ← hyN, ← hyt]
      simp only [ringSpk, simFire, smOf, List.getElem?_map]
    obtain ⟨sp, hsp'⟩ : ∃ sp, spkAt N l T = sp := ⟨_, rfl⟩
    rw [hsp'] at hsp
    have hspl : sp.length ≤ 1024 := by
      have := spk_length (simFire y) (simFire y).length
      rw [List.take_length, hsp, hyr.ok.fire] at this
      have := hyr.ok.net.few
      omega
    have hsegn : seg N l x.tick (i + 1) = seg N l x.tick i ++ sp.map fun m => ⟨(T : Int), m⟩ := by
      rw [seg, hT, hsp']
    have hseg1 : (seg N l x.tick i).length + sp.length ≤ 65536 := by
      have := seg_mono N l x.tick (i + 1) (n - (i + 1))
      rw [show i + 1 + (n - (i + 1)) = n by omega, hsegn, List.length_append, List.length_map] at this
      omega
    repeat' (conv => whnf); first | (refine VCall.isF 50 ?_; refine VCall.inl (F := Try.fx50) Try.func50 rfl rfl rfl Try.ok50 ?_) | (refine VCall.isF 89 ?_; refine VCall.inl (F := Try.fx89) Try.func89 rfl rfl rfl Try.ok89 ?_) | (refine VLd.is ?_; refine VLd.mk (Rd.cast (.row (by repeat (first | exact aT0 | apply aT1 | with_reducible apply aT2 | with_reducible apply aT3)) (h4)) (by first | omega | (dsimp only; omega) | rfl)) ?_) | (refine VLd.is ?_; refine VLd.mk (Rd.cast (.row (by repeat (first | exact aT0 | apply aT1 | with_reducible apply aT2 | with_reducible apply aT3)) (h5)) (by first | omega | (dsimp only; omega) | rfl)) ?_) | (refine VSeq.is ?_; refine VSeq.cut (at_ := 10) (α := Nat) (fun k1 => TkInv l T k1) (fun k1 => [(1000000, .tuple #[]), (0, .pointer (some ⟨y.b, 0, none⟩)), (1, .slice pe l.length ce), (2, .int .i64 (n : Int)), (6, .slice none 0 0), (7, .bool false), (8, .slice p (seg N l x.tick i).length cap), (9, .int .i64 (k1 : Int)), (10, .int .i64 (i : Int)), (11, .int .i64 (T : Int)), (12, .slice none 0 0)]) (fun _ => .vec p (seg N l x.tick i).length cap 44 2 (flat evtV (seg N l x.tick i)) :: ownH y) ?_ ?_) | (refine VSeq.is ?_; refine VSeq.go ?_) | (refine VB.is ?_; refine VB.yes (by omega) fun _ => ?_) | (refine VB.is ?_; refine VB.no (by omega) fun _ => ?_) | (refine VB.is ?_; refine VB.split (fun _ => ?_) (fun _ => ?_)) | (refine boolE_split (fun h => ?_) (fun h => ?_) <;> subst h) | (refine VLd.is ?_; refine VLd.mk (.row (by repeat (first | exact aT0 | apply aT1 | with_reducible apply aT2 | with_reducible apply aT3)) (by rfl)) ?_) | (refine VSt.is ?_; refine VSt.row (by repeat (first | exact aT0 | apply aT1 | with_reducible apply aT2 | with_reducible apply aT3)) (by rfl) (by first | rfl | assumption) ?_) | (refine VNew.is ?_; refine VNew.mk fun _ => ?_) | (refine VAr.is ?_; refine VAr.i64 (by omega) (by omega) ?_) | (refine VIx.is ?_; refine VIx.mk rfl (by omega) (by omega) ?_) | (refine VKeep.is ?_; refine VKeep.mk (by repeat (first | exact HLe.nil | exact HLe.refl _ | refine HLe.nilv ?_ | (with_reducible refine HLe.seg ?_ ?_; (focus (repeat (first | with_reducible exact sT0 | with_reducible exact sT1 | exact sT2 | apply sT3 | with_reducible apply sT4 | with_reducible apply sT5)))) | refine HLe.cons (by repeat (first | exact aT0 | apply aT1 | with_reducible apply aT2 | with_reducible apply aT3)) ?_ | refine HLe.seg (by repeat (first | with_reducible exact sT0 | with_reducible exact sT1 | exact sT2 | apply sT3 | with_reducible apply sT4 | with_reducible apply sT5)) ?_ | exact HLe.last (by repeat (first | with_reducible exact sT0 | with_reducible exact sT1 | exact sT2 | apply sT3 | with_reducible apply sT4 | with_reducible apply sT5)))) ?_) | (refine VHs.is ?_; refine VHs.mk _ (HLe.refl _) ?_) | (refine VQ.is ?_; refine VQ.pos (by omega) (by omega) (by omega) ?_) | (refine VM.is ?_; refine VM.pos (by omega) (by omega) ?_) | (refine And.intro ?_ ?_)
    all_goals (conv => whnf)
    · refine VLoop.kr (α := Nat) [1000000, 0, 1, 2, 6, 7, 8, 10, 11, 12] rfl (fun k => k ≤ l.length ∧ ∀ e ∈ l.take k, e.tick < (T : Int)) (fun k K => (9, .int .i64 (k : Int)) :: K)
        (fun _ => .vec p (seg N l x.tick i).length cap 44 2 (flat evtV (seg N l x.tick i)) :: ownH y) (fun k => l.length - k) k ⟨hk0, hpast⟩ (by repeat (first | exact trivial | refine ⟨rfl, ?_⟩)) (by repeat (first | exact HLe.nil | exact HLe.refl _ | refine HLe.nilv ?_ | (with_reducible refine HLe.seg ?_ ?_; (focus (repeat (first | with_reducible exact sT0 | with_reducible exact sT1 | exact sT2 | apply sT3 | with_reducible apply sT4 | with_reducible apply sT5)))) | refine HLe.cons (by repeat (first | exact aT0 | apply aT1 | with_reducible apply aT2 | with_reducible apply aT3)) ?_ | refine HLe.seg (by repeat (first | with_reducible exact sT0 | with_reducible exact sT1 | exact sT2 | apply sT3 | with_reducible apply sT4 | with_reducible apply sT5)) ?_ | exact HLe.last (by repeat (first | with_reducible exact sT0 | with_reducible exact sT1 | exact sT2 | apply sT3 | with_reducible apply sT4 | with_reducible apply sT5)))) ?_
      rintro k1 ⟨hk1, hpast1⟩
      obtain ⟨e, he⟩ : ∃ e : Evt, k1 < l.length → l[k1]? = some e := by
        rcases Nat.lt_or_ge k1 l.length with h | h
        · exact ⟨l[k1], fun _ => List.getElem?_eq_getElem h⟩
        · exact ⟨⟨0, 0⟩, fun h' => by omega⟩
      have hew : k1 < l.length → (0 ≤ e.tick ∧ e.tick < limit) ∧ (0 ≤ e.id ∧ e.id < N.inputs) := fun h => hl.range e (List.mem_of_getElem? (he h))
      have hex : ¬ (k1 < l.length ∧ e.tick < (T : Int)) → TkInv l T k1 := by
        intro hno
        refine TkInv.of hl hk1 hpast1 fun x hx => ?_
        have hlt' := (List.getElem?_eq_some_iff.1 hx).1
        have := he hlt'
        rw [this] at hx
        cases hx
        omega
      by_cases hmore : k1 < l.length ∧ e.tick < (T : Int)
      · repeat' (conv => whnf); first | (refine VIx.is ?_; refine VIx.mk (h3.ptr (by omega)) (by omega) (by omega) ?_) | (refine VLd.is ?_; refine VLd.mk (Rd.cast (h3.rd (o := 0) (s := 1) hbe (fun _ => rfl) (he hmore.1) rfl) (by first | omega | (dsimp only; omega) | rfl)) ?_) | (refine VSeq.is ?_; refine VSeq.go ?_) | (refine VB.is ?_; refine VB.yes (by omega) fun _ => ?_) | (refine VB.is ?_; refine VB.no (by omega) fun _ => ?_) | (refine VB.is ?_; refine VB.split (fun _ => ?_) (fun _ => ?_)) | (refine boolE_split (fun h => ?_) (fun h => ?_) <;> subst h) | (refine VLd.is ?_; refine VLd.mk (.row (by repeat (first | exact aT0 | apply aT1 | with_reducible apply aT2 | with_reducible apply aT3)) (by rfl)) ?_) | (refine VSt.is ?_; refine VSt.row (by repeat (first | exact aT0 | apply aT1 | with_reducible apply aT2 | with_reducible apply aT3)) (by rfl) (by first | rfl | assumption) ?_) | (refine VNew.is ?_; refine VNew.mk fun _ => ?_) | (refine VAr.is ?_; refine VAr.i64 (by omega) (by omega) ?_) | (refine VIx.is ?_; refine VIx.mk rfl (by omega) (by omega) ?_) | (refine VKeep.is ?_; refine VKeep.mk (by repeat (first | exact HLe.nil | exact HLe.refl _ | refine HLe.nilv ?_ | (with_reducible refine HLe.seg ?_ ?_; (focus (repeat (first | with_reducible exact sT0 | with_reducible exact sT1 | exact sT2 | apply sT3 | with_reducible apply sT4 | with_reducible apply sT5)))) | refine HLe.cons (by repeat (first | exact aT0 | apply aT1 | with_reducible apply aT2 | with_reducible apply aT3)) ?_ | refine HLe.seg (by repeat (first | with_reducible exact sT0 | with_reducible exact sT1 | exact sT2 | apply sT3 | with_reducible apply sT4 | with_reducible apply sT5)) ?_ | exact HLe.last (by repeat (first | with_reducible exact sT0 | with_reducible exact sT1 | exact sT2 | apply sT3 | with_reducible apply sT4 | with_reducible apply sT5)))) ?_) | (refine VHs.is ?_; refine VHs.mk _ (HLe.refl _) ?_) | (refine VQ.is ?_; refine VQ.pos (by omega) (by omega) (by omega) ?_) | (refine VM.is ?_; refine VM.pos (by omega) (by omega) ?_) | (refine And.intro ?_ ?_)
        all_goals (conv => whnf)
        refine VNext.mk (k1 + 1) ⟨by omega, fun e' he' => ?_⟩ (by omega) (by repeat (first | exact trivial | refine ⟨rfl, ?_⟩)) (by repeat (first | exact HLe.nil | exact HLe.refl _ | refine HLe.nilv ?_ | (with_reducible refine HLe.seg ?_ ?_; (focus (repeat (first | with_reducible exact sT0 | with_reducible exact sT1 | exact sT2 | apply sT3 | with_reducible apply sT4 | with_reducible apply sT5)))) | refine HLe.cons (by repeat (first | exact aT0 | apply aT1 | with_reducible apply aT2 | with_reducible apply aT3)) ?_ | refine HLe.seg (by repeat (first | with_reducible exact sT0 | with_reducible exact sT1 | exact sT2 | apply sT3 | with_reducible apply sT4 | with_reducible apply sT5)) ?_ | exact HLe.last (by repeat (first | with_reducible exact sT0 | with_reducible exact sT1 | exact sT2 | apply sT3 | with_reducible apply sT4 | with_reducible apply sT5))))
        rw [List.take_add_one, he hmore.1, Option.toList_some] at he'
        rcases List.mem_append.1 he' with h | h
        · exact hpast1 e' h
        · simp only [List.mem_singleton] at h; subst h; exact hmore.2
      have htk := hex hmore
      repeat' (conv => whnf); first | (refine VIx.is ?_; refine VIx.mk (h3.ptr (by omega)) (by omega) (by omega) ?_) | (refine VLd.is ?_; refine VLd.mk (Rd.cast (h3.rd (o := 0) (s := 1) hbe (fun _ => rfl) (he (by omega)) rfl) (by first | omega | (dsimp only; omega) | rfl)) ?_) | (refine VSeq.is ?_; refine VSeq.go ?_) | (refine VB.is ?_; refine VB.yes (by omega) fun _ => ?_) | (refine VB.is ?_; refine VB.no (by omega) fun _ => ?_) | (refine VB.is ?_; refine VB.split (fun _ => ?_) (fun _ => ?_)) | (refine boolE_split (fun h => ?_) (fun h => ?_) <;> subst h) | (refine VLd.is ?_; refine VLd.mk (.row (by repeat (first | exact aT0 | apply aT1 | with_reducible apply aT2 | with_reducible apply aT3)) (by rfl)) ?_) | (refine VSt.is ?_; refine VSt.row (by repeat (first | exact aT0 | apply aT1 | with_reducible apply aT2 | with_reducible apply aT3)) (by rfl) (by first | rfl | assumption) ?_) | (refine VNew.is ?_; refine VNew.mk fun _ => ?_) | (refine VAr.is ?_; refine VAr.i64 (by omega) (by omega) ?_) | (refine VIx.is ?_; refine VIx.mk rfl (by omega) (by omega) ?_) | (refine VKeep.is ?_; refine VKeep.mk (by repeat (first | exact HLe.nil | exact HLe.refl _ | refine HLe.nilv ?_ | (with_reducible refine HLe.seg ?_ ?_; (focus (repeat (first | with_reducible exact sT0 | with_reducible exact sT1 | exact sT2 | apply sT3 | with_reducible apply sT4 | with_reducible apply sT5)))) | refine HLe.cons (by repeat (first | exact aT0 | apply aT1 | with_reducible apply aT2 | with_reducible apply aT3)) ?_ | refine HLe.seg (by repeat (first | with_reducible exact sT0 | with_reducible exact sT1 | exact sT2 | apply sT3 | with_reducible apply sT4 | with_reducible apply sT5)) ?_ | exact HLe.last (by repeat (first | with_reducible exact sT0 | with_reducible exact sT1 | exact sT2 | apply sT3 | with_reducible apply sT4 | with_reducible apply sT5)))) ?_) | (refine VHs.is ?_; refine VHs.mk _ (HLe.refl _) ?_) | (refine VQ.is ?_; refine VQ.pos (by omega) (by omega) (by omega) ?_) | (refine VM.is ?_; refine VM.pos (by omega) (by omega) ?_) | (refine And.intro ?_ ?_)
      all_goals (conv => whnf)
      all_goals exact VMid.mk k1 htk (by repeat (first | exact trivial | refine ⟨rfl, ?_⟩)) (by repeat (first | exact HLe.nil | exact HLe.refl _ | refine HLe.nilv ?_ | (with_reducible refine HLe.seg ?_ ?_; (focus (repeat (first | with_reducible exact sT0 | with_reducible exact sT1 | exact sT2 | apply sT3 | with_reducible apply sT4 | with_reducible apply sT5)))) | refine HLe.cons (by repeat (first | exact aT0 | apply aT1 | with_reducible apply aT2 | with_reducible apply aT3)) ?_ | refine HLe.seg (by repeat (first | with_reducible exact sT0 | with_reducible exact sT1 | exact sT2 | apply sT3 | with_reducible apply sT4 | with_reducible apply sT5)) ?_ | exact HLe.last (by repeat (first | with_reducible exact sT0 | with_reducible exact sT1 | exact sT2 | apply sT3 | with_reducible apply sT4 | with_reducible apply sT5))))
    rintro k1 htk
    obtain ⟨htk1, htk2⟩ := htk.next hl
    obtain ⟨L, hL⟩ : ∃ L, l.drop k1 = L := ⟨_, rfl⟩
    rw [hL] at htk1 htk2
    obtain ⟨A, hA⟩ : ∃ A, atLen (T : Int) L = A := ⟨_, rfl⟩
    rw [hA] at htk1 htk2
    have hAle : A ≤ L.length := by rw [← hA]; exact atLen_le _ _
    have hLl : L.length = l.length - k1 := by rw [← hL, List.length_drop]
    have htake : ∀ j e, L[j]? = some e → (L.take (j + 1)).map (fun e : Evt => e.id) = (L.take j).map (fun e : Evt => e.id) ++ [e.id] := by
      intro j e he
      rw [List.take_add_one, he, Option.toList_some, List.map_append]; rfl
    repeat' (conv => whnf); first | (refine VSeq.is ?_; refine VSeq.cut (at_ := 13) (α := Nat × Option Addr × Nat) (fun z => TkInv l (T + 1) z.1) (fun z => [(1000000, .tuple #[]), (0, .pointer (some ⟨y.b, 0, none⟩)), (1, .slice pe l.length ce), (2, .int .i64 (n : Int)), (6, .slice none 0 0), (7, .bool false), (8, .slice p (seg N l x.tick i).length cap), (9, .int .i64 (z.1 : Int)), (10, .int .i64 (i : Int)), (11, .int .i64 (T : Int)), (12, .slice z.2.1 ins.length z.2.2)]) (fun z => .vec z.2.1 ins.length z.2.2 3 1 (flat intV ins) :: .vec p (seg N l x.tick i).length cap 44 2 (flat evtV (seg N l x.tick i)) :: ownH y) ?_ ?_) | (refine VSeq.is ?_; refine VSeq.go ?_) | (refine VB.is ?_; refine VB.yes (by omega) fun _ => ?_) | (refine VB.is ?_; refine VB.no (by omega) fun _ => ?_) | (refine VB.is ?_; refine VB.split (fun _ => ?_) (fun _ => ?_)) | (refine boolE_split (fun h => ?_) (fun h => ?_) <;> subst h) | (refine VLd.is ?_; refine VLd.mk (.row (by repeat (first | exact aT0 | apply aT1 | with_reducible apply aT2 | with_reducible apply aT3)) (by rfl)) ?_) | (refine VSt.is ?_; refine VSt.row (by repeat (first | exact aT0 | apply aT1 | with_reducible apply aT2 | with_reducible apply aT3)) (by rfl) (by first | rfl | assumption) ?_) | (refine VNew.is ?_; refine VNew.mk fun _ => ?_) | (refine VAr.is ?_; refine VAr.i64 (by omega) (by omega) ?_) | (refine VIx.is ?_; refine VIx.mk rfl (by omega) (by omega) ?_) | (refine VKeep.is ?_; refine VKeep.mk (by repeat (first | exact HLe.nil | exact HLe.refl _ | refine HLe.nilv ?_ | (with_reducible refine HLe.seg ?_ ?_; (focus (repeat (first | with_reducible exact sT0 | with_reducible exact sT1 | exact sT2 | apply sT3 | with_reducible apply sT4 | with_reducible apply sT5)))) | refine HLe.cons (by repeat (first | exact aT0 | apply aT1 | with_reducible apply aT2 | with_reducible apply aT3)) ?_ | refine HLe.seg (by repeat (first | with_reducible exact sT0 | with_reducible exact sT1 | exact sT2 | apply sT3 | with_reducible apply sT4 | with_reducible apply sT5)) ?_ | exact HLe.last (by repeat (first | with_reducible exact sT0 | with_reducible exact sT1 | exact sT2 | apply sT3 | with_reducible apply sT4 | with_reducible apply sT5)))) ?_) | (refine VHs.is ?_; refine VHs.mk _ (HLe.refl _) ?_) | (refine VQ.is ?_; refine VQ.pos (by omega) (by omega) (by omega) ?_) | (refine VM.is ?_; refine VM.pos (by omega) (by omega) ?_) | (refine And.intro ?_ ?_)
    all_goals (conv => whnf)
    rotate_left
    · rintro ⟨k2, pi, ci⟩ htk1
      dsimp only at htk1 ⊢
      repeat' (conv => whnf); first | (refine VCall.isF 40 ?_; (refine Step_call y hyr ins (by omega) pi _ ci rfl (by repeat (first | with_reducible exact sT0 | with_reducible exact sT1 | exact sT2 | apply sT3 | with_reducible apply sT4 | with_reducible apply sT5)) (fun w1 hw1 => (hy.sh.keep hw1).sub (by rw [hy.ids]; exact fun b hb => hb)) (fun w1 hw1 => by obtain ⟨bi, g1, g2⟩ := Sl.vecOut (f := intV) (l := ins) (S := ownH y) hw1 (by repeat (first | exact HLe.nil | exact HLe.refl _ | refine HLe.nilv ?_ | (with_reducible refine HLe.seg ?_ ?_; (focus (repeat (first | with_reducible exact sT0 | with_reducible exact sT1 | exact sT2 | apply sT3 | with_reducible apply sT4 | with_reducible apply sT5)))) | refine HLe.cons (by repeat (first | exact aT0 | apply aT1 | with_reducible apply aT2 | with_reducible apply aT3)) ?_ | refine HLe.seg (by repeat (first | with_reducible exact sT0 | with_reducible exact sT1 | exact sT2 | apply sT3 | with_reducible apply sT4 | with_reducible apply sT5)) ?_ | exact HLe.last (by repeat (first | with_reducible exact sT0 | with_reducible exact sT1 | exact sT2 | apply sT3 | with_reducible apply sT4 | with_reducible apply sT5)))) (fun _ => rfl) rfl; exact ⟨bi, 0, g1, g2⟩) ?_; intro q cq hq; rw [hss, hsp] at hq ⊢; rw [hse, hsm])) | (refine VSeq.is ?_; refine VSeq.go ?_) | (refine VB.is ?_; refine VB.yes (by omega) fun _ => ?_) | (refine VB.is ?_; refine VB.no (by omega) fun _ => ?_) | (refine VB.is ?_; refine VB.split (fun _ => ?_) (fun _ => ?_)) | (refine boolE_split (fun h => ?_) (fun h => ?_) <;> subst h) | (refine VLd.is ?_; refine VLd.mk (.row (by repeat (first | exact aT0 | apply aT1 | with_reducible apply aT2 | with_reducible apply aT3)) (by rfl)) ?_) | (refine VSt.is ?_; refine VSt.row (by repeat (first | exact aT0 | apply aT1 | with_reducible apply aT2 | with_reducible apply aT3)) (by rfl) (by first | rfl | assumption) ?_) | (refine VNew.is ?_; refine VNew.mk fun _ => ?_) | (refine VAr.is ?_; refine VAr.i64 (by omega) (by omega) ?_) | (refine VIx.is ?_; refine VIx.mk rfl (by omega) (by omega) ?_) | (refine VKeep.is ?_; refine VKeep.mk (by repeat (first | exact HLe.nil | exact HLe.refl _ | refine HLe.nilv ?_ | (with_reducible refine HLe.seg ?_ ?_; (focus (repeat (first | with_reducible exact sT0 | with_reducible exact sT1 | exact sT2 | apply sT3 | with_reducible apply sT4 | with_reducible apply sT5)))) | refine HLe.cons (by repeat (first | exact aT0 | apply aT1 | with_reducible apply aT2 | with_reducible apply aT3)) ?_ | refine HLe.seg (by repeat (first | with_reducible exact sT0 | with_reducible exact sT1 | exact sT2 | apply sT3 | with_reducible apply sT4 | with_reducible apply sT5)) ?_ | exact HLe.last (by repeat (first | with_reducible exact sT0 | with_reducible exact sT1 | exact sT2 | apply sT3 | with_reducible apply sT4 | with_reducible apply sT5)))) ?_) | (refine VHs.is ?_; refine VHs.mk _ (HLe.refl _) ?_) | (refine VQ.is ?_; refine VQ.pos (by omega) (by omega) (by omega) ?_) | (refine VM.is ?_; refine VM.pos (by omega) (by omega) ?_) | (refine And.intro ?_ ?_)
      all_goals (conv => whnf)
      obtain ⟨og, hog⟩ : ∃ og, seg N l x.tick i = og := ⟨_, rfl⟩
      rw [hog] at hsegn hseg1 ⊢
      refine VLoop.kr (α := Nat × Option Addr × Nat) [1000000, 0, 1, 2, 6, 7, 9, 10, 11, 13] rfl (fun z => z.1 ≤ sp.length) (fun z K => (15, .int .i64 (z.1 : Int)) :: (8, .slice z.2.1 (og ++ (sp.take z.1).map fun m => (⟨(T : Int), m⟩ : Evt)).length z.2.2) :: K)
        (fun z => .vec z.2.1 (og ++ (sp.take z.1).map fun m => (⟨(T : Int), m⟩ : Evt)).length z.2.2 44 2 (flat evtV (og ++ (sp.take z.1).map fun m => (⟨(T : Int), m⟩ : Evt))) :: .vec q sp.length cq 3 1 (flat intV sp) :: ownH (simStep y ins)) (fun z => sp.length - z.1) (0, p, cap) (by simp) (by dsimp only; simp only [List.take_zero, List.map_nil, List.append_nil]; repeat (first | exact trivial | refine ⟨rfl, ?_⟩)) (by dsimp only; simp only [List.take_zero, List.map_nil, List.append_nil]; repeat (first | exact HLe.nil | exact HLe.refl _ | refine HLe.nilv ?_ | (with_reducible refine HLe.seg ?_ ?_; (focus (repeat (first | with_reducible exact sT0 | with_reducible exact sT1 | exact sT2 | apply sT3 | with_reducible apply sT4 | with_reducible apply sT5)))) | refine HLe.cons (by repeat (first | exact aT0 | apply aT1 | with_reducible apply aT2 | with_reducible apply aT3)) ?_ | refine HLe.seg (by repeat (first | with_reducible exact sT0 | with_reducible exact sT1 | exact sT2 | apply sT3 | with_reducible apply sT4 | with_reducible apply sT5)) ?_ | exact HLe.last (by repeat (first | with_reducible exact sT0 | with_reducible exact sT1 | exact sT2 | apply sT3 | with_reducible apply sT4 | with_reducible apply sT5)))) ?_
      rintro ⟨m, pj, capj⟩ hm
      dsimp only at hm ⊢
      obtain ⟨oj, hoj⟩ : ∃ oj, og ++ (sp.take m).map (fun i => (⟨(T : Int), i⟩ : Evt)) = oj := ⟨_, rfl⟩
      have hojl : oj.length = og.length + m := by rw [← hoj]; simp; omega
      rw [hoj]
      rcases Nat.lt_or_ge m sp.length with hltj | hgej
      · obtain ⟨u, hu⟩ : ∃ u, sp[m]? = some u := ⟨sp[m], List.getElem?_eq_getElem _⟩
        obtain ⟨gq, hgq⟩ := hq (by omega)
        subst hgq
        have hon : og ++ (sp.take (m + 1)).map (fun i => (⟨(T : Int), i⟩ : Evt)) = oj ++ [⟨(T : Int), u⟩] := by
          rw [List.take_add_one, hu, Option.toList_some, List.map_append, ← List.append_assoc, hoj]; rfl
        repeat' (conv => whnf); first | (refine VIx.is ?_; refine VIx.mk rfl (by omega) (by omega) ?_) | (refine VLd.is ?_; refine VLd.mk (Rd.cast (.vec (by repeat (first | exact aT0 | apply aT1 | with_reducible apply aT2 | with_reducible apply aT3)) (sub_flat0 (f := intV) (k := 1) (fun _ => rfl) hu rfl)) (by first | omega | (dsimp only; omega) | rfl)) ?_) | (refine VAp.is ?_; refine VAp.own (p := pj) (by repeat (first | exact aT0 | apply aT1 | with_reducible apply aT2 | with_reducible apply aT3)) (.at_ (.vec (by repeat (first | exact aT0 | apply aT1 | with_reducible apply aT2 | with_reducible apply aT3)) rfl)) (by simp [Value.oneCell', packE]) (by (try dsimp only); omega) (by simp only [maxLen]; omega) fun p' cap' hp' => ?_) | (refine VSeq.is ?_; refine VSeq.go ?_) | (refine VB.is ?_; refine VB.yes (by omega) fun _ => ?_) | (refine VB.is ?_; refine VB.no (by omega) fun _ => ?_) | (refine VB.is ?_; refine VB.split (fun _ => ?_) (fun _ => ?_)) | (refine boolE_split (fun h => ?_) (fun h => ?_) <;> subst h) | (refine VLd.is ?_; refine VLd.mk (.row (by repeat (first | exact aT0 | apply aT1 | with_reducible apply aT2 | with_reducible apply aT3)) (by rfl)) ?_) | (refine VSt.is ?_; refine VSt.row (by repeat (first | exact aT0 | apply aT1 | with_reducible apply aT2 | with_reducible apply aT3)) (by rfl) (by first | rfl | assumption) ?_) | (refine VNew.is ?_; refine VNew.mk fun _ => ?_) | (refine VAr.is ?_; refine VAr.i64 (by omega) (by omega) ?_) | (refine VIx.is ?_; refine VIx.mk rfl (by omega) (by omega) ?_) | (refine VKeep.is ?_; refine VKeep.mk (by repeat (first | exact HLe.nil | exact HLe.refl _ | refine HLe.nilv ?_ | (with_reducible refine HLe.seg ?_ ?_; (focus (repeat (first | with_reducible exact sT0 | with_reducible exact sT1 | exact sT2 | apply sT3 | with_reducible apply sT4 | with_reducible apply sT5)))) | refine HLe.cons (by repeat (first | exact aT0 | apply aT1 | with_reducible apply aT2 | with_reducible apply aT3)) ?_ | refine HLe.seg (by repeat (first | with_reducible exact sT0 | with_reducible exact sT1 | exact sT2 | apply sT3 | with_reducible apply sT4 | with_reducible apply sT5)) ?_ | exact HLe.last (by repeat (first | with_reducible exact sT0 | with_reducible exact sT1 | exact sT2 | apply sT3 | with_reducible apply sT4 | with_reducible apply sT5)))) ?_) | (refine VHs.is ?_; refine VHs.mk _ (HLe.refl _) ?_) | (refine VQ.is ?_; refine VQ.pos (by omega) (by omega) (by omega) ?_) | (refine VM.is ?_; refine VM.pos (by omega) (by omega) ?_) | (refine And.intro ?_ ?_)
        all_goals (conv => whnf)
        refine VNext.mk (m + 1, p', cap') (by dsimp only; omega) (by dsimp only; omega) ?_ ?_
        · dsimp only; rw [hon, List.length_append]; repeat (first | exact trivial | refine ⟨rfl, ?_⟩)
        · dsimp only; rw [hon, List.length_append, flat_append]; repeat (first | exact HLe.nil | exact HLe.refl _ | refine HLe.nilv ?_ | (with_reducible refine HLe.seg ?_ ?_; (focus (repeat (first | with_reducible exact sT0 | with_reducible exact sT1 | exact sT2 | apply sT3 | with_reducible apply sT4 | with_reducible apply sT5)))) | refine HLe.cons (by repeat (first | exact aT0 | apply aT1 | with_reducible apply aT2 | with_reducible apply aT3)) ?_ | refine HLe.seg (by repeat (first | with_reducible exact sT0 | with_reducible exact sT1 | exact sT2 | apply sT3 | with_reducible apply sT4 | with_reducible apply sT5)) ?_ | exact HLe.last (by repeat (first | with_reducible exact sT0 | with_reducible exact sT1 | exact sT2 | apply sT3 | with_reducible apply sT4 | with_reducible apply sT5)))
      · have hfull : oj = seg N l x.tick (i + 1) := by rw [hsegn, ← hoj, List.take_of_length_le hgej]
        rw [hfull]
        repeat' (conv => whnf); first | (refine VSeq.is ?_; refine VSeq.go ?_) | (refine VB.is ?_; refine VB.yes (by omega) fun _ => ?_) | (refine VB.is ?_; refine VB.no (by omega) fun _ => ?_) | (refine VB.is ?_; refine VB.split (fun _ => ?_) (fun _ => ?_)) | (refine boolE_split (fun h => ?_) (fun h => ?_) <;> subst h) | (refine VLd.is ?_; refine VLd.mk (.row (by repeat (first | exact aT0 | apply aT1 | with_reducible apply aT2 | with_reducible apply aT3)) (by rfl)) ?_) | (refine VSt.is ?_; refine VSt.row (by repeat (first | exact aT0 | apply aT1 | with_reducible apply aT2 | with_reducible apply aT3)) (by rfl) (by first | rfl | assumption) ?_) | (refine VNew.is ?_; refine VNew.mk fun _ => ?_) | (refine VAr.is ?_; refine VAr.i64 (by omega) (by omega) ?_) | (refine VIx.is ?_; refine VIx.mk rfl (by omega) (by omega) ?_) | (refine VKeep.is ?_; refine VKeep.mk (by repeat (first | exact HLe.nil | exact HLe.refl _ | refine HLe.nilv ?_ | (with_reducible refine HLe.seg ?_ ?_; (focus (repeat (first | with_reducible exact sT0 | with_reducible exact sT1 | exact sT2 | apply sT3 | with_reducible apply sT4 | with_reducible apply sT5)))) | refine HLe.cons (by repeat (first | exact aT0 | apply aT1 | with_reducible apply aT2 | with_reducible apply aT3)) ?_ | refine HLe.seg (by repeat (first | with_reducible exact sT0 | with_reducible exact sT1 | exact sT2 | apply sT3 | with_reducible apply sT4 | with_reducible apply sT5)) ?_ | exact HLe.last (by repeat (first | with_reducible exact sT0 | with_reducible exact sT1 | exact sT2 | apply sT3 | with_reducible apply sT4 | with_reducible apply sT5)))) ?_) | (refine VHs.is ?_; refine VHs.mk _ (HLe.refl _) ?_) | (refine VQ.is ?_; refine VQ.pos (by omega) (by omega) (by omega) ?_) | (refine VM.is ?_; refine VM.pos (by omega) (by omega) ?_) | (refine And.intro ?_ ?_)
        all_goals (conv => whnf)
        refine VNext.mk (simStep y ins, i + 1, k2, pj, capj) ⟨by dsimp only; omega, ?_⟩ (by dsimp only; omega) (by repeat (first | exact trivial | refine ⟨rfl, ?_⟩)) (by repeat (first | exact HLe.nil | exact HLe.refl _ | refine HLe.nilv ?_ | (with_reducible refine HLe.seg ?_ ?_; (focus (repeat (first | with_reducible exact sT0 | with_reducible exact sT1 | exact sT2 | apply sT3 | with_reducible apply sT4 | with_reducible apply sT5)))) | refine HLe.cons (by repeat (first | exact aT0 | apply aT1 | with_reducible apply aT2 | with_reducible apply aT3)) ?_ | refine HLe.seg (by repeat (first | with_reducible exact sT0 | with_reducible exact sT1 | exact sT2 | apply sT3 | with_reducible apply sT4 | with_reducible apply sT5)) ?_ | exact HLe.last (by repeat (first | with_reducible exact sT0 | with_reducible exact sT1 | exact sT2 | apply sT3 | with_reducible apply sT4 | with_reducible apply sT5))))
        dsimp only
        have hrun := hyr.step ins
        rw [hsm] at hrun
        refine ⟨hrun, hy.net, hy.b, hy.shr, (ids_step y ins).trans hy.ids, ⟨hy.sh.par, hy.sh.parM, hy.sh.map, hy.sh.mapM, hy.sh.rows⟩, ?_, ?_, htk1.le, ?_⟩
        · show y.tick + 1 = _
          rw [hy.tick]; omega
        · rw [← Nat.add_assoc, hT, hN]
          show smOf (simStep y ins) = ringStep N T (stAt N l T) (insAt l T)
          rw [smOf_step, hst', hI, hyN, hyt]
        · rw [← Nat.add_assoc, hT]
          exact htk1.past
    refine VLoop.kr (α := Nat × Option Addr × Nat) [1000000, 0, 1, 2, 6, 7, 8, 10, 11] rfl (fun z => z.1 ≤ A) (fun z K => (9, .int .i64 ((k1 + z.1 : Nat) : Int)) :: (12, .slice z.2.1 z.1 z.2.2) :: K)
      (fun z => .vec z.2.1 z.1 z.2.2 3 1 (flat intV ((L.take z.1).map fun e : Evt => e.id)) :: .vec p (seg N l x.tick i).length cap 44 2 (flat evtV (seg N l x.tick i)) :: ownH y) (fun z => A - z.1) (0, none, 0) (by simp) (by repeat (first | exact trivial | refine ⟨rfl, ?_⟩)) (by repeat (first | exact HLe.nil | exact HLe.refl _ | refine HLe.nilv ?_ | (with_reducible refine HLe.seg ?_ ?_; (focus (repeat (first | with_reducible exact sT0 | with_reducible exact sT1 | exact sT2 | apply sT3 | with_reducible apply sT4 | with_reducible apply sT5)))) | refine HLe.cons (by repeat (first | exact aT0 | apply aT1 | with_reducible apply aT2 | with_reducible apply aT3)) ?_ | refine HLe.seg (by repeat (first | with_reducible exact sT0 | with_reducible exact sT1 | exact sT2 | apply sT3 | with_reducible apply sT4 | with_reducible apply sT5)) ?_ | exact HLe.last (by repeat (first | with_reducible exact sT0 | with_reducible exact sT1 | exact sT2 | apply sT3 | with_reducible apply sT4 | with_reducible apply sT5)))) ?_
    rintro ⟨j, pi, ci⟩ hj
    dsimp only at hj ⊢
    obtain ⟨e2, he2⟩ : ∃ e : Evt, k1 + j < l.length → l[k1 + j]? = some e := by
      rcases Nat.lt_or_ge (k1 + j) l.length with h | h
      · exact ⟨l[k1 + j], fun _ => List.getElem?_eq_getElem h⟩
      · exact ⟨⟨0, 0⟩, fun h' => by omega⟩
    have hLj : k1 + j < l.length → L[j]? = some e2 := fun h => by rw [← hL, List.getElem?_drop]; exact he2 h
    have hew2 : k1 + j < l.length → (0 ≤ e2.tick ∧ e2.tick < limit) ∧ (0 ≤ e2.id ∧ e2.id < N.inputs) := fun h => hl.range e2 (List.mem_of_getElem? (he2 h))
    have hat : k1 + j < l.length → (j < A ↔ e2.tick = (T : Int)) := fun h => by rw [← hA]; exact atLen_get (T : Int) (by rw [hA]; exact hj) (hLj h)
    by_cases hmore2 : k1 + j < l.length ∧ e2.tick = (T : Int)
    · try (exfalso; omega)
      all_goals
        repeat' (conv => whnf); first | (refine VIx.is ?_; refine VIx.mk (h3.ptr (by omega)) (by omega) (by omega) ?_) | (refine VLd.is ?_; refine VLd.mk (Rd.cast (h3.rd (o := 0) (s := 1) hbe (fun _ => rfl) (he2 hmore2.1) rfl) (by first | omega | (dsimp only; omega) | rfl)) ?_) | (refine VLd.is ?_; refine VLd.mk (Rd.cast (h3.rd (o := 1) (s := 1) hbe (fun _ => rfl) (he2 hmore2.1) rfl) (by first | omega | (dsimp only; omega) | rfl)) ?_) | (refine VAp.is ?_; refine VAp.own (p := pi) (by repeat (first | exact aT0 | apply aT1 | with_reducible apply aT2 | with_reducible apply aT3)) (.at_ (.vec (by repeat (first | exact aT0 | apply aT1 | with_reducible apply aT2 | with_reducible apply aT3)) rfl)) (by simp [Value.oneCell']) (by (try dsimp only); omega) (by simp only [maxLen]; omega) fun p' cap' hp' => ?_) | (refine VSeq.is ?_; refine VSeq.go ?_) | (refine VB.is ?_; refine VB.yes (by omega) fun _ => ?_) | (refine VB.is ?_; refine VB.no (by omega) fun _ => ?_) | (refine VB.is ?_; refine VB.split (fun _ => ?_) (fun _ => ?_)) | (refine boolE_split (fun h => ?_) (fun h => ?_) <;> subst h) | (refine VLd.is ?_; refine VLd.mk (.row (by repeat (first | exact aT0 | apply aT1 | with_reducible apply aT2 | with_reducible apply aT3)) (by rfl)) ?_) | (refine VSt.is ?_; refine VSt.row (by repeat (first | exact aT0 | apply aT1 | with_reducible apply aT2 | with_reducible apply aT3)) (by rfl) (by first | rfl | assumption) ?_) | (refine VNew.is ?_; refine VNew.mk fun _ => ?_) | (refine VAr.is ?_; refine VAr.i64 (by omega) (by omega) ?_) | (refine VIx.is ?_; refine VIx.mk rfl (by omega) (by omega) ?_) | (refine VKeep.is ?_; refine VKeep.mk (by repeat (first | exact HLe.nil | exact HLe.refl _ | refine HLe.nilv ?_ | (with_reducible refine HLe.seg ?_ ?_; (focus (repeat (first | with_reducible exact sT0 | with_reducible exact sT1 | exact sT2 | apply sT3 | with_reducible apply sT4 | with_reducible apply sT5)))) | refine HLe.cons (by repeat (first | exact aT0 | apply aT1 | with_reducible apply aT2 | with_reducible apply aT3)) ?_ | refine HLe.seg (by repeat (first | with_reducible exact sT0 | with_reducible exact sT1 | exact sT2 | apply sT3 | with_reducible apply sT4 | with_reducible apply sT5)) ?_ | exact HLe.last (by repeat (first | with_reducible exact sT0 | with_reducible exact sT1 | exact sT2 | apply sT3 | with_reducible apply sT4 | with_reducible apply sT5)))) ?_) | (refine VHs.is ?_; refine VHs.mk _ (HLe.refl _) ?_) | (refine VQ.is ?_; refine VQ.pos (by omega) (by omega) (by omega) ?_) | (refine VM.is ?_; refine VM.pos (by omega) (by omega) ?_) | (refine And.intro ?_ ?_)
        all_goals (conv => whnf)
        refine VNext.mk (j + 1, p', cap') (by dsimp only; omega) (by dsimp only; omega) ?_ ?_
        · dsimp only
          rw [show ((k1 + (j + 1) : Nat) : Int) = ((k1 + j : Nat) : Int) + 1 by omega]
          repeat (first | exact trivial | refine ⟨rfl, ?_⟩)
        · dsimp only
          rw [htake j e2 (hLj hmore2.1), flat_append]
          repeat (first | exact HLe.nil | exact HLe.refl _ | refine HLe.nilv ?_ | (with_reducible refine HLe.seg ?_ ?_; (focus (repeat (first | with_reducible exact sT0 | with_reducible exact sT1 | exact sT2 | apply sT3 | with_reducible apply sT4 | with_reducible apply sT5)))) | refine HLe.cons (by repeat (first | exact aT0 | apply aT1 | with_reducible apply aT2 | with_reducible apply aT3)) ?_ | refine HLe.seg (by repeat (first | with_reducible exact sT0 | with_reducible exact sT1 | exact sT2 | apply sT3 | with_reducible apply sT4 | with_reducible apply sT5)) ?_ | exact HLe.last (by repeat (first | with_reducible exact sT0 | with_reducible exact sT1 | exact sT2 | apply sT3 | with_reducible apply sT4 | with_reducible apply sT5)))
    have hjA : j = A := by omega
    subst hjA
    have hIj : ins.length = j := by rw [← hI, ← htk2, List.length_map, List.length_take]; omega
    have hins := htk2
    rw [hI] at hins
    rw [hins]
    repeat' (conv => whnf); first | (refine VIx.is ?_; refine VIx.mk (h3.ptr (by omega)) (by omega) (by omega) ?_) | (refine VLd.is ?_; refine VLd.mk (Rd.cast (h3.rd (o := 0) (s := 1) hbe (fun _ => rfl) (he2 (by omega)) rfl) (by first | omega | (dsimp only; omega) | rfl)) ?_) | (refine VSeq.is ?_; refine VSeq.go ?_) | (refine VB.is ?_; refine VB.yes (by omega) fun _ => ?_) | (refine VB.is ?_; refine VB.no (by omega) fun _ => ?_) | (refine VB.is ?_; refine VB.split (fun _ => ?_) (fun _ => ?_)) | (refine boolE_split (fun h => ?_) (fun h => ?_) <;> subst h) | (refine VLd.is ?_; refine VLd.mk (.row (by repeat (first | exact aT0 | apply aT1 | with_reducible apply aT2 | with_reducible apply aT3)) (by rfl)) ?_) | (refine VSt.is ?_; refine VSt.row (by repeat (first | exact aT0 | apply aT1 | with_reducible apply aT2 | with_reducible apply aT3)) (by rfl) (by first | rfl | assumption) ?_) | (refine VNew.is ?_; refine VNew.mk fun _ => ?_) | (refine VAr.is ?_; refine VAr.i64 (by omega) (by omega) ?_) | (refine VIx.is ?_; refine VIx.mk rfl (by omega) (by omega) ?_) | (refine VKeep.is ?_; refine VKeep.mk (by repeat (first | exact HLe.nil | exact HLe.refl _ | refine HLe.nilv ?_ | (with_reducible refine HLe.seg ?_ ?_; (focus (repeat (first | with_reducible exact sT0 | with_reducible exact sT1 | exact sT2 | apply sT3 | with_reducible apply sT4 | with_reducible apply sT5)))) | refine HLe.cons (by repeat (first | exact aT0 | apply aT1 | with_reducible apply aT2 | with_reducible apply aT3)) ?_ | refine HLe.seg (by repeat (first | with_reducible exact sT0 | with_reducible exact sT1 | exact sT2 | apply sT3 | with_reducible apply sT4 | with_reducible apply sT5)) ?_ | exact HLe.last (by repeat (first | with_reducible exact sT0 | with_reducible exact sT1 | exact sT2 | apply sT3 | with_reducible apply sT4 | with_reducible apply sT5)))) ?_) | (refine VHs.is ?_; refine VHs.mk _ (HLe.refl _) ?_) | (refine VQ.is ?_; refine VQ.pos (by omega) (by omega) (by omega) ?_) | (refine VM.is ?_; refine VM.pos (by omega) (by omega) ?_) | (refine And.intro ?_ ?_)
    all_goals (conv => whnf)
    all_goals exact VMid.mk (k1 + j, pi, ci) htk1 (by dsimp only; rw [hIj]; repeat (first | exact trivial | refine ⟨rfl, ?_⟩)) (by dsimp only; rw [hIj]; repeat (first | exact HLe.nil | exact HLe.refl _ | refine HLe.nilv ?_ | (with_reducible refine HLe.seg ?_ ?_; (focus (repeat (first | with_reducible exact sT0 | with_reducible exact sT1 | exact sT2 | apply sT3 | with_reducible apply sT4 | with_reducible apply sT5)))) | refine HLe.cons (by repeat (first | exact aT0 | apply aT1 | with_reducible apply aT2 | with_reducible apply aT3)) ?_ | refine HLe.seg (by repeat (first | with_reducible exact sT0 | with_reducible exact sT1 | exact sT2 | apply sT3 | with_reducible apply sT4 | with_reducible apply sT5)) ?_ | exact HLe.last (by repeat (first | with_reducible exact sT0 | with_reducible exact sT1 | exact sT2 | apply sT3 | with_reducible apply sT4 | with_reducible apply sT5))))
  · obtain rfl : i = n := by omega
    repeat' (conv => whnf); first | (refine VSeq.is ?_; refine VSeq.go ?_) | (refine VB.is ?_; refine VB.yes (by omega) fun _ => ?_) | (refine VB.is ?_; refine VB.no (by omega) fun _ => ?_) | (refine VB.is ?_; refine VB.split (fun _ => ?_) (fun _ => ?_)) | (refine boolE_split (fun h => ?_) (fun h => ?_) <;> subst h) | (refine VLd.is ?_; refine VLd.mk (.row (by repeat (first | exact aT0 | apply aT1 | with_reducible apply aT2 | with_reducible apply aT3)) (by rfl)) ?_) | (refine VSt.is ?_; refine VSt.row (by repeat (first | exact aT0 | apply aT1 | with_reducible apply aT2 | with_reducible apply aT3)) (by rfl) (by first | rfl | assumption) ?_) | (refine VNew.is ?_; refine VNew.mk fun _ => ?_) | (refine VAr.is ?_; refine VAr.i64 (by omega) (by omega) ?_) | (refine VIx.is ?_; refine VIx.mk rfl (by omega) (by omega) ?_) | (refine VKeep.is ?_; refine VKeep.mk (by repeat (first | exact HLe.nil | exact HLe.refl _ | refine HLe.nilv ?_ | (with_reducible refine HLe.seg ?_ ?_; (focus (repeat (first | with_reducible exact sT0 | with_reducible exact sT1 | exact sT2 | apply sT3 | with_reducible apply sT4 | with_reducible apply sT5)))) | refine HLe.cons (by repeat (first | exact aT0 | apply aT1 | with_reducible apply aT2 | with_reducible apply aT3)) ?_ | refine HLe.seg (by repeat (first | with_reducible exact sT0 | with_reducible exact sT1 | exact sT2 | apply sT3 | with_reducible apply sT4 | with_reducible apply sT5)) ?_ | exact HLe.last (by repeat (first | with_reducible exact sT0 | with_reducible exact sT1 | exact sT2 | apply sT3 | with_reducible apply sT4 | with_reducible apply sT5)))) ?_) | (refine VHs.is ?_; refine VHs.mk _ (HLe.refl _) ?_) | (refine VQ.is ?_; refine VQ.pos (by omega) (by omega) (by omega) ?_) | (refine VM.is ?_; refine VM.pos (by omega) (by omega) ?_) | (refine And.intro ?_ ?_)
    all_goals (conv => whnf)
    refine ⟨fun w' hw' => ⟨(y, p, cap), rfl, ⟨hyr, hyN, hy.b, hy.shr, hy.tick, by rw [← hN]; exact hy.st⟩, hw'.le (by repeat (first | exact HLe.nil | exact HLe.refl _ | refine HLe.nilv ?_ | (with_reducible refine HLe.seg ?_ ?_; (focus (repeat (first | with_reducible exact sT0 | with_reducible exact sT1 | exact sT2 | apply sT3 | with_reducible apply sT4 | with_reducible apply sT5)))) | refine HLe.cons (by repeat (first | exact aT0 | apply aT1 | with_reducible apply aT2 | with_reducible apply aT3)) ?_ | refine HLe.seg (by repeat (first | with_reducible exact sT0 | with_reducible exact sT1 | exact sT2 | apply sT3 | with_reducible apply sT4 | with_reducible apply sT5)) ?_ | exact HLe.last (by repeat (first | with_reducible exact sT0 | with_reducible exact sT1 | exact sT2 | apply sT3 | with_reducible apply sT4 | with_reducible apply sT5))))⟩⟩

end Go.Proofs
