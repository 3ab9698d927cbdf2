import Derived.Test.YtjjcoiicikaaiaaGreatPlaceMapsRm
import Derived.Test.YtjjcoiicikaaiaaGreatPlaceMapsTb
import Derived.Test.YtjjcoiicikaaiaaGreatPlaceMapsMl
set_option linter.unusedVariables false
set_option linter.unusedSimpArgs false
set_option maxHeartbeats 4000000

namespace Go.Gm

def tabI (T : Int → List Int) (ks : List Int) (key : Int) (n r : Nat) : List (List Ety) := (List.range n).map fun j => if j < r then tableM T (ks ++ [key]) j else tableM T ks j

theorem tabI_zero (T : Int → List Int) (ks : List Int) (key : Int) (n : Nat) : tabI T ks key n 0 = (List.range n).map (tableM T ks) := by
 unfold tabI
 exact List.map_congr_left fun j _ => if_neg (Nat.not_lt_zero _)

theorem tabI_all (T : Int → List Int) (ks : List Int) (key : Int) (n : Nat) : tabI T ks key n n = (List.range n).map (tableM T (ks ++ [key])) := by
 unfold tabI
 exact List.map_congr_left fun j hj => if_pos (List.mem_range.1 hj)

theorem tabI_get {T : Int → List Int} {ks : List Int} {key : Int} {n r : Nat} (hr : r < n) : (tabI T ks key n r)[r]? = some (tableM T ks r) := by
 unfold tabI
 rw [List.getElem?_map, List.getElem?_range hr]
 simp

theorem tabI_next {T : Int → List Int} {ks : List Int} {key : Int} {n r : Nat} (hr : r < n) : tabI T ks key n (r + 1) = (tabI T ks key n r).set r (tableM T (ks ++ [key]) r) := by
 unfold tabI
 apply List.ext_getElem?
 intro j
 rw [List.getElem?_set]
 by_cases hj : r = j
 ·subst hj
  rw [if_pos rfl, if_pos (by simpa using hr), List.getElem?_map, List.getElem?_range hr]
  simp
 ·rw [if_neg hj, List.getElem?_map, List.getElem?_map]
  by_cases hjn : j < n
  ·rw [List.getElem?_range hjn]
   simp only [Option.map_some, Option.some.injEq]
   by_cases h : j < r
   ·rw [if_pos h, if_pos (by omega)]
   ·rw [if_neg h, if_neg (by omega)]
  ·rw [List.getElem?_eq_none (by simp; omega)]; rfl

theorem tabI_some {T : Int → List Int} {ks : List Int} {key : Int} {r : Nat} {v : Int} (h : (T key)[r]? = some v) (h0 : v ≠ 0) : tableM T (ks ++ [key]) r = tableM T ks r ++ [⟨key, 65535, v⟩] := by
 rw [tableM_snoc]
 unfold etyAt
 rw [h]
 simp [h0]

theorem tabI_none {T : Int → List Int} {ks : List Int} {key : Int} {r : Nat} (h : (T key)[r]? = some 0) : tableM T (ks ++ [key]) r = tableM T ks r := by
 rw [tableM_snoc]
 unfold etyAt
 rw [h]
 simp

theorem table_below {T : Int → List Int} {ks : List Int} {key : Int} (h : ∀ k ∈ ks, k < key) (r : Nat) : ∀ y ∈ tableM T ks r, y.key < key := by
 intro y hy
 have h1 : y.key ∈ (tableM T ks r).map (·.key) := List.mem_map_of_mem hy
 rw [table_keys, List.mem_filter] at h1
 exact h _ h1.1

theorem set_same4 {α : Type} {l : List α} {i : Nat} {x : α} (h : l[i]? = some x) : l.set i x = l := by
 obtain ⟨_, h2⟩ := List.getElem?_eq_some_iff.1 h
 rw [← h2]; exact List.set_getElem_self _

end Go.Gm

namespace Go.Proofs

open Go Go.Vx Go.Gm

def rerE (r : ERow) : Ent := .vec r.p r.l.length r.c 178 3 (flat etyV r.l)

theorem _root_.Go.Vx.Sl.ownM {α : Type} {f : α → List Value} {k : Nat} {l : List α} {w0 w : World} {M : List Nat} {H : HP} {p : Option Addr} {n cap e : Nat} (hs : St w0 M H w) (hm : Ent.vec p n cap e k (flat f l) ∈ H) (hk : ∀ x, (f x).length = k) (hl : l.length = n) : ∃ b, Sl w f k l p n b 0 := by
 obtain ⟨u, r, hat⟩ := At.ofMem hm
 exact Sl.own hs hat hk hl

theorem rtables_any (s : Spc) (hs : s.wf) (hok : SpcOk s) (T : Int → List Int) (l : List WayM) (hl : WaysOk s T l) (p : Option Addr) (c b o : Nat) (w : World) (h1 : Sl w wayV 3 l p l.length b o) (h2 : ∀ x ∈ l, ∃ b o, Sl w intV 1 x.tg x.p x.tg.length b o) :
  Calls Tryz.prog 129 #[.agg (spcC s).toArray, .slice p l.length c] w fun e w' => ∃ z : Nat × List ERow, e = .returned (.tuple #[.slice (some ⟨z.1, 0, none⟩) z.2.length z.2.length, .int .i64 0]) ∧
   (z.2.map (·.l) = (List.range (s.wide * s.high).toNat).map (tableM T (l.map (·.key))) ∧ ∀ r ∈ z.2, r.ok) ∧ St w [] (.vec (some ⟨z.1, 0, none⟩) z.2.length z.2.length 177 1 (flat erV z.2) :: z.2.map rerE) w' := by
 have hmc := fun w' => refMeshCheck_any s hs w'
 have hme : meshE s = 0 := meshE_zero.2 hok
 rw [hme] at hmc
 have hfew := hl.few
 have hcw := hok.wide
 have hch := hok.high
 have hcells : 1 ≤ s.wide * s.high ∧ s.wide * s.high ≤ 64 := by
  have h1 : 1 * 1 ≤ s.wide * s.high := Int.mul_le_mul hcw.1 hch.1 (by omega) (by omega)
  have h2 : s.wide * s.high ≤ 8 * 8 := Int.mul_le_mul hcw.2 hch.2 (by omega) (by omega)
  omega
 obtain ⟨n, hn⟩ : ∃ n : Nat, s.wide * s.high = (n : Int) := ⟨(s.wide * s.high).toNat, by omega⟩
 have hnn : (s.wide * s.high).toNat = n := by omega
 have hlen := hl.len
 rw [hnn] at hlen ⊢
 rw [hn] at hcells
 have htr := fun (x : WayM) (hx : x ∈ l) (w' : World) p c b o h => refTree_any s hs x.home (hl.home x hx) x.tg (hl.tgs x hx).1 (hl.tgs x hx).2 p c b o w' h
 have hasc := hl.asc
 unfold spcC at hmc htr ⊢
 refine enter (C := Tryz.cx) (F := Tryz.fx129) (args := [_, _]) Tryz.func129 rfl rfl rfl Tryz.ok129 (St.start w []) ?_
 repeat' (conv => whnf); first | (refine VNew.mk fun b2 => ?_) | (refine VCall.isF 50 ?_; (refine VCall.valR (fun w' _ => hmc w') ?_)) | (refine VAr.is ?_; refine VAr.is ?_; refine VAr.mul hn (by omega) (by omega) ?_) | (refine VMk.is ?_; refine VMk.mk (by omega) (by omega) (by (try dsimp only); omega) (by omega) fun go => ?_) | (refine VSeq.go ?_) | (refine VB.is ?_; refine VB.no (by omega) fun _ => ?_) | (refine VLd.is ?_; refine VLd.mk (.row aT (by rfl)) ?_)
 all_goals (conv => whnf)
 have hrE : flat erV (List.replicate n (⟨none, 0, []⟩ : ERow)) = repL [.slice none 0 0] n := (flat_rep (f := erV) (x := (⟨none, 0, []⟩ : ERow)) n).symm
 have hsE : (List.replicate n (⟨none, 0, []⟩ : ERow)).map rerE = List.replicate n (.vec none 0 0 178 3 []) := by rw [List.map_replicate]; rfl
 refine VLoop.mk (α := Nat × List ERow) (fun z => z.1 ≤ l.length ∧ z.2.map (·.l) = (List.range n).map (tableM T ((l.take z.1).map (·.key))) ∧ ∀ r ∈ z.2, r.ok) (fun z => [(1000000, .tuple #[]), (1, .slice p l.length c), (2, .pointer (some ⟨b2, 0, none⟩)), (4, .slice none 0 0), (5, .int .i64 0), (7, .slice (some ⟨go, 0, none⟩) n n), (8, .int .i64 (z.1 : Int))])
  (fun z => .row b2 31 [.int .i64 s.wide, .int .i64 s.high, .int .i64 s.room] :: .vec (some ⟨go, 0, none⟩) n n 177 1 (flat erV z.2) :: z.2.map rerE) (fun z => l.length - z.1) (0, List.replicate n ⟨none, 0, []⟩) ⟨Nat.zero_le _, ?_, ?_⟩ aE ?_ ?_
 ·dsimp only
  rw [List.map_replicate, map_rep]
  exact List.map_congr_left fun i _ => rfl
 ·intro r hr
  rw [List.eq_of_mem_replicate hr]
  intro h; cases h
 ·dsimp only
  rw [hrE, hsE]
  refine HLe.permL (HLe.nilvs ?_ n) (A' := _) (A := List.replicate n (.vec none 0 0 178 3 []) ++ (.row b2 31 [.int .i64 s.wide, .int .i64 s.high, .int .i64 s.room] :: .vec (some ⟨go, 0, none⟩) n n 177 1 (repL [.slice none 0 0] n) :: ([] : HP))) ?_
  ·exact aH
  ·exact List.perm_append_comm (l₁ := ([.row b2 31 [.int .i64 s.wide, .int .i64 s.high, .int .i64 s.room], .vec (some ⟨go, 0, none⟩) n n 177 1 (repL [.slice none 0 0] n)] : HP))
 rintro ⟨i, rows⟩ ⟨hi, hrows, hrk⟩
 dsimp only at hi hrows hrk ⊢
 have v0 : ∀ x : WayM, sub (wayV x) 0 1 = some [.int .i64 x.key] := fun x => rfl
 have v1 : ∀ x : WayM, sub (wayV x) 1 1 = some [.int .i64 x.home] := fun x => rfl
 have v2 : ∀ x : WayM, sub (wayV x) 2 1 = some [.slice x.p x.tg.length x.c] := fun x => rfl
 rcases Nat.lt_or_ge i l.length with hlt | hge
 ·obtain ⟨x, hx⟩ := h1.get hlt
  have hxm := List.mem_of_getElem? hx
  have hxk := hl.key x hxm
  repeat' (conv => whnf); first | (refine VIx.is ?_; refine VIx.mk (h1.ptr (by omega)) (by omega) (by omega) ?_) | (refine VLd.is ?_; refine VLd.mk (Rd.cast (h1.rd (o := 0) (s := 1) (by simp) (fun _ => rfl) hx (v0 x)) (by first | omega | (dsimp only; omega) | rfl)) ?_) | (refine VSeq.go ?_) | (refine VB.is ?_; refine VB.yes (by omega) fun _ => ?_) | (refine VB.is ?_; refine VB.no (by omega) fun _ => ?_)
  all_goals (conv => whnf)
  refine VLoop.mk (α := Nat) (fun k => k ≤ i) (fun k => [(1000000, .tuple #[]), (1, .slice p l.length c), (2, .pointer (some ⟨b2, 0, none⟩)), (4, .slice none 0 0), (5, .int .i64 0), (7, .slice (some ⟨go, 0, none⟩) n n), (8, .int .i64 (i : Int)), (9, .int .i64 (k : Int))])
   (fun _ => .row b2 31 [.int .i64 s.wide, .int .i64 s.high, .int .i64 s.room] :: .vec (some ⟨go, 0, none⟩) n n 177 1 (flat erV rows) :: rows.map rerE) (fun k => i - k) 0 (Nat.zero_le _) aE (HLe.refl _) ?_
  rintro k hk
  rcases Nat.lt_or_ge k i with hki | hkg
  ·obtain ⟨y, hy⟩ := h1.get (by omega : k < l.length)
   have hlt2 : y.key < x.key := pair_lt hasc (i := k) (j := i) (by rw [List.getElem?_map, hy]; rfl) (by rw [List.getElem?_map, hx]; rfl) hki
   repeat' (conv => whnf); first | (refine VIx.is ?_; refine VIx.mk (h1.ptr (by omega)) (by omega) (by omega) ?_) | (refine VLd.is ?_; refine VLd.mk (Rd.cast (h1.rd (o := 0) (s := 1) (by simp) (fun _ => rfl) hx (v0 x)) (by first | omega | (dsimp only; omega) | rfl)) ?_) | (refine VLd.is ?_; refine VLd.mk (Rd.cast (h1.rd (o := 0) (s := 1) (by simp) (fun _ => rfl) hy (v0 y)) (by first | omega | (dsimp only; omega) | rfl)) ?_) | (refine VSeq.go ?_) | (refine VB.is ?_; refine VB.yes (by omega) fun _ => ?_) | (refine VB.is ?_; refine VB.no (by omega) fun _ => ?_) | (refine VAr.is ?_; refine oA ?_) | (refine VHs.mk _ (.refl _) ?_)
   all_goals (conv => whnf)
   exact VNext.mk (k + 1) (by omega) (by omega) aE (HLe.refl _)
  have hki : k = i := by omega
  subst hki
  clear hk hkg
  obtain ⟨bx, ox, hx2⟩ := h2 x hxm
  have hTx := htr x hxm
  rw [hl.tree x hxm] at hTx
  have hln := hlen x hxm
  dsimp only at hTx
  rw [hln] at hTx
  have hTok := hl.ok
  obtain ⟨ks, hks⟩ : ∃ ks, (l.take k).map (·.key) = ks := ⟨_, rfl⟩
  have hkn : (l.take (k + 1)).map (·.key) = ks ++ [x.key] := by rw [List.take_add_one, hx, Option.toList_some, List.map_append, hks]; rfl
  have hkb : ∀ q ∈ ks, q < x.key := fun q hq => by
   rw [← hks] at hq
   obtain ⟨y, hy, rfl⟩ := List.mem_map.1 hq
   obtain ⟨j, hj⟩ := List.getElem?_of_mem hy
   have hjl := (List.getElem?_eq_some_iff.1 hj).1
   rw [List.length_take] at hjl
   rw [List.getElem?_take, if_pos (by omega)] at hj
   exact pair_lt hasc (i := j) (j := k) (by rw [List.getElem?_map, hj]; rfl) (by rw [List.getElem?_map, hx]; rfl) (by omega)
  have hkr : ∀ q ∈ ks, 0 ≤ q ∧ q ≤ 65535 := fun q hq => by
   rw [← hks] at hq
   obtain ⟨y, hy, rfl⟩ := List.mem_map.1 hq
   exact hl.key y (List.mem_of_mem_take hy)
  have hksl : ks.length ≤ 1024 := by rw [← hks, List.length_map, List.length_take]; omega
  rw [hks] at hrows
  obtain ⟨TX, hTX⟩ : ∃ TX, T x.key = TX := ⟨_, rfl⟩
  rw [hTX] at hTx hln
  repeat' (conv => whnf); first | (refine VIx.is ?_; refine VIx.mk (h1.ptr (by omega)) (by omega) (by omega) ?_) | (refine VLd.is ?_; refine VLd.mk (Rd.cast (h1.rd (o := 1) (s := 1) (by simp) (fun _ => rfl) hx (v1 x)) (by first | omega | (dsimp only; omega) | rfl)) ?_) | (refine VLd.is ?_; refine VLd.mk (Rd.cast (h1.rd (o := 2) (s := 1) (by simp) (fun _ => rfl) hx (v2 x)) (by first | omega | (dsimp only; omega) | rfl)) ?_) | (refine VCall.isF 128 ?_; (refine VCall.genR (fun w' hw' => hTx w' _ _ _ _ (hx2.keep hw' (by simp))) ?_; rintro ⟨q, cq⟩ hq; dsimp only at hq ⊢; obtain ⟨gq, rfl⟩ := hq (by omega))) | (refine VSeq.go ?_) | (refine VB.is ?_; refine VB.no (by omega) fun _ => ?_) | (refine VLd.is ?_; refine VLd.mk (.row aT (by rfl)) ?_) | (refine VHs.mk _ (.refl _) ?_)
  all_goals (conv => whnf)
  refine VLoop.mk (α := Nat × List ERow) (fun z => z.1 ≤ n ∧ z.2.map (·.l) = tabI T ks x.key n z.1 ∧ ∀ r ∈ z.2, r.ok) (fun z => [(1000000, .tuple #[]), (1, .slice p l.length c), (2, .pointer (some ⟨b2, 0, none⟩)), (4, .slice none 0 0), (5, .int .i64 0), (7, .slice (some ⟨go, 0, none⟩) n n), (8, .int .i64 (k : Int)), (10, .slice (some ⟨gq, 0, none⟩) n cq), (12, .int .i64 (z.1 : Int))])
   (fun z => .vec (some ⟨gq, 0, none⟩) n cq 3 1 (flat intV TX) :: .row b2 31 [.int .i64 s.wide, .int .i64 s.high, .int .i64 s.room] :: .vec (some ⟨go, 0, none⟩) n n 177 1 (flat erV z.2) :: z.2.map rerE) (fun z => n - z.1) (0, rows) ⟨Nat.zero_le _, by rw [tabI_zero]; exact hrows, hrk⟩ aE aH ?_
  clear hrows hrk
  rintro ⟨r, rows⟩ ⟨hr, hrows, hrk⟩
  dsimp only at hr hrows hrk ⊢
  have hrl : rows.length = n := by
   have := congrArg List.length hrows
   rw [List.length_map] at this
   rw [this]; unfold tabI; simp
  rcases Nat.lt_or_ge r n with hrlt | hrge
  ·obtain ⟨⟨rp, rc, rl⟩, hrow⟩ : ∃ row, rows[r]? = some row := ⟨_, List.getElem?_eq_getElem (by omega)⟩
   have hrle : rl = tableM T ks r := by
    have h1 : (rows.map (·.l))[r]? = (tabI T ks x.key n r)[r]? := by rw [hrows]
    rw [List.getElem?_map, hrow, tabI_get hrlt] at h1
    simpa using h1
   obtain ⟨v, hv⟩ : ∃ v, TX[r]? = some v := ⟨_, List.getElem?_eq_getElem (by omega)⟩
   have hv2 : (T x.key)[r]? = some v := by rw [hTX]; exact hv
   have hvo := hTok x.key v (List.mem_of_getElem? hv2)
   have hnx := tabI_next (T := T) (ks := ks) (key := x.key) hrlt
   by_cases hv0 : v = 0
   ·subst hv0
    rw [tabI_none hv2, set_same4 (tabI_get hrlt)] at hnx
    repeat' (conv => whnf); first | (refine VIx.is ?_; refine VIx.mk rfl (by omega) (by omega) ?_) | (refine VLd.is ?_; refine VLd.mk (Rd.cast (.vec aT (sub_flat0 (f := intV) (k := 1) (fun _ => rfl) hv rfl)) (by first | omega | (dsimp only; omega) | rfl)) ?_) | (refine VSeq.go ?_) | (refine VB.is ?_; refine VB.yes (by omega) fun _ => ?_) | (refine VB.is ?_; refine VB.no (by omega) fun _ => ?_) | (refine VAr.is ?_; refine oA ?_)
    all_goals (conv => whnf)
    exact VNext.mk (r + 1, rows) ⟨by dsimp only; omega, by dsimp only; rw [hnx]; exact hrows, hrk⟩ (by dsimp only; omega) aE (HLe.refl _)
   ·rw [tabI_some hv2 hv0, ← hrle] at hnx
    have hetok : ∀ e ∈ rl, EtyOk e := by rw [hrle]; exact table_ok hTok hkr r
    have hrll : rl.length ≤ 1024 := by rw [hrle]; have := table_len T ks r; omega
    have hbel : ∀ y ∈ rl, y.key < x.key := by rw [hrle]; exact table_below hkb r
    have hxo : EtyOk ⟨x.key, 65535, v⟩ := by
     have := table_ok (keys := [x.key]) hTok (fun k hk => by rw [List.mem_singleton] at hk; rw [hk]; exact hxk) r ⟨x.key, 65535, v⟩ (by
      unfold tableM etyAt
      rw [List.filterMap_cons, hv2]
      simp [hv0])
     exact this
    have hins := fun (w' : World) bq hc hbq => rins_any rl hetok hrll ⟨x.key, 65535, v⟩ hxo hbel rp rc bq 0 hc w' hbq
    have hqm : Ent.vec rp rl.length rc 178 3 (flat etyV rl) ∈ rows.map rerE := List.mem_map_of_mem (f := rerE) (List.mem_of_getElem? hrow)
    have hre : ∀ (z1 : Option Addr) (z2 : Nat), rerE ⟨z1, z2, rl ++ [⟨x.key, 65535, v⟩]⟩ = .vec z1 (rl.length + 1) z2 178 3 (flat etyV (rl ++ [⟨x.key, 65535, v⟩])) := fun z1 z2 => by unfold rerE; rw [List.length_append]; rfl
    have hup := erV_upd ⟨rp, rc, rl⟩
    unfold etyV at hins
    repeat' (conv => whnf); first | (refine VIx.is ?_; refine VIx.mk rfl (by omega) (by omega) ?_) | (refine VIx.is ?_; refine VIx.mk (h1.ptr (by omega)) (by omega) (by omega) ?_) | (refine VLd.is ?_; refine VLd.mk (Rd.cast (h1.rd (o := 0) (s := 1) (by simp) (fun _ => rfl) hx (v0 x)) (by first | omega | (dsimp only; omega) | rfl)) ?_) | (refine VLd.is ?_; refine VLd.mk (Rd.cast (.vec aT (sub_flat0 (f := intV) (k := 1) (fun _ => rfl) hv rfl)) (by first | omega | (dsimp only; omega) | rfl)) ?_) | (refine VLd.is ?_; refine VLd.mk (Rd.cast (.vec aT (sub_flat0 (f := erV) (k := 1) (fun _ => rfl) hrow rfl)) (by first | omega | (dsimp only; omega) | rfl)) ?_) | (refine VCall.isF 167 ?_; (refine VCall.genR (fun w' hw' => Exists.elim (Sl.ownM (f := etyV) (l := rl) (k := 3) hw' (by (repeat (first | exact hqm | exact List.mem_append_left _ hqm | apply List.mem_cons_of_mem | apply List.mem_append_right)); first | done | fail) (fun _ => rfl) rfl) fun bq hbq => hins w' bq (vec_facts (hw'.own (.vec rp rl.length rc 178 3 (flat etyV rl)) (by (repeat (first | exact hqm | exact List.mem_append_left _ hqm | apply List.mem_cons_of_mem | apply List.mem_append_right)); first | done | fail))).1 hbq) ?_; rintro ⟨z1, z2⟩ hz; dsimp only at hz ⊢)) | (refine VSt.is ?_; refine VSt.is ?_; refine VSt.cast (off' := r * 1) (by first | omega | (dsimp only; omega) | rfl) (VSt.vec aT (upd_flat0 (f := erV) (k := 1) (y := ⟨z1, z2, rl ++ [⟨x.key, 65535, v⟩]⟩) (fun _ => rfl) hrow (hup _ _ _)) rfl ?_)) | (refine VSeq.go ?_) | (refine VB.is ?_; refine VB.yes (by omega) fun _ => ?_) | (refine VAr.is ?_; refine oA ?_) | (refine VHs.mk _ (.refl _) ?_)
    all_goals (conv => whnf)
    refine VNext.mk (r + 1, rows.set r ⟨z1, z2, rl ++ [⟨x.key, 65535, v⟩]⟩) ⟨by dsimp only; omega, ?_, ?_⟩ (by dsimp only; omega) aE ?_
    ·dsimp only
     rw [hnx, ← hrows, List.map_set]
    ·intro r' hr'
     rcases List.mem_or_eq_of_mem_set hr' with h | rfl
     ·exact hrk r' h
     ·exact fun _ => hz
    ·dsimp only
     refine HLe.permL ?_ (put_seg (f := rerE) aS (by omega))
     rw [hre]
     refine HLe.trans ?_ (take_seg (f := rerE) aS hrow)
     exact aH
  have hrn : r = n := by omega
  subst hrn
  rw [tabI_all, ← hkn] at hrows
  repeat' (conv => whnf); first | (refine VSeq.go ?_) | (refine VB.is ?_; refine VB.no (by omega) fun _ => ?_) | (refine VAr.is ?_; refine oA ?_)
  all_goals (conv => whnf)
  exact VNext.mk (k + 1, rows) ⟨by dsimp only; omega, hrows, hrk⟩ (by dsimp only; omega) aE aH
 have hil : i = l.length := by omega
 subst hil
 rw [List.take_length] at hrows
 have hrl : rows.length = n := by
  have := congrArg List.length hrows
  simpa using this
 repeat' (conv => whnf); first | (refine VSeq.go ?_) | (refine VB.is ?_; refine VB.no (by omega) fun _ => ?_) | (refine VAr.is ?_; refine oA ?_)
 all_goals (conv => whnf)
 refine ⟨fun w' hw' => ⟨(go, rows), ?_, ⟨hrows, hrk⟩, ?_⟩⟩
 ·rw [hrl]; rfl
 ·dsimp only
  rw [hrl]
  exact hw'.le aH

end Go.Proofs
