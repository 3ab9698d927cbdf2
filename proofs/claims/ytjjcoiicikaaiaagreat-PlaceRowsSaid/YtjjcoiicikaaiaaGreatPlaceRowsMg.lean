import Derived.Test.YtjjcoiicikaaiaaGreatPlaceRowsBt
import Derived.Test.YtjjcoiicikaaiaaGreatPlaceRowsPg
import Derived.Test.YtjjcoiicikaaiaaGreatPlaceRowsMz
set_option linter.unusedVariables false
set_option linter.unusedSimpArgs false
set_option maxHeartbeats 4000000

namespace Go.Proofs

open Go Go.Vx Go.Gm

def etyV (x : Ety) : List Value := [.int .i64 x.key, .int .i64 x.mask, .int .i64 x.outs]

theorem find_any (l : List Ety) (hl : ∀ x ∈ l, EtyOk x) (hlen : l.length ≤ 65536) (key : Int) (hk : 0 ≤ key ∧ key ≤ 65535) (p : Option Addr) (c b o : Nat) (w : World) (h1 : Sl w etyV 3 l p l.length b o) :
  Calls Tryz.prog 122 #[.slice p l.length c, .int .i64 key] w fun e w' => e = .returned (.tuple #[.int .i64 ((findE l key).getD 0), .bool (findE l key).isSome]) ∧ St w [] [] w' := by
 refine enter (C := Tryz.cx) (F := Tryz.fx122) (args := [_, _]) Tryz.func122 rfl rfl rfl Tryz.ok122 (St.start w []) ?_
 repeat' (conv => whnf); first | (refine VNew.mk fun b3 => ?_) | (refine VCall.isF 158 ?_; refine VCall.inl (F := Tryz.fx158) Tryz.func158 rfl rfl rfl Tryz.ok158 ?_) | (refine VSeq.go ?_)
 all_goals (conv => whnf)
 refine VLoop.mk (α := Nat) (fun j => j ≤ l.length ∧ ∀ y ∈ l.take j, hits key y = false) (fun j => [(1000000, .tuple #[]), (0, .slice p l.length c), (1, .func (.func 160) #[] #[.pointer (some ⟨b3, 0, none⟩)]), (4, .int .i64 0), (7, .int .i64 (l.length : Int)), (8, .int .i64 (j : Int))])
  (fun _ => [.row b3 3 [.int .i64 key]]) (fun j => l.length - j) 0 ⟨Nat.zero_le _, by simp⟩ aE aH ?_
 rintro j ⟨hj, hb⟩
 rcases Nat.lt_or_ge j l.length with hlt | hge
 ·obtain ⟨x, hx⟩ := h1.get hlt
  have hxo := hl x (List.mem_of_getElem? hx)
  have hxk := hxo.key
  have hxm := hxo.mask
  have hfd := fun h => findE_at (key := key) hx h hb
  have hnx : hits key x = false → ∀ y ∈ l.take (j + 1), hits key y = false := fun h y hy => by
   rw [List.take_add_one, hx] at hy
   rcases List.mem_append.1 hy with hy | hy
   ·exact hb y hy
   ·simp only [Option.toList_some, List.mem_singleton] at hy
    rw [hy]; exact h
  have hiff : hits key x = true ↔ band key x.mask = x.key := by unfold hits; rw [decide_eq_true_eq]
  have hbd := band_le key x.mask
  obtain ⟨bd, hbdv⟩ : ∃ bd, band key x.mask = bd := ⟨_, rfl⟩
  have hbdv2 : ((key.toNat &&& x.mask.toNat : Nat) : Int) = bd := hbdv
  rw [hbdv] at hiff hbd
  have hxv : sub (etyV x) 0 3 = some [.int .i64 x.key, .int .i64 x.mask, .int .i64 x.outs] := rfl
  have hxo2 : sub (etyV x) 2 1 = some [.int .i64 x.outs] := rfl
  clear hl hb hxo
  repeat' (conv => whnf); first | (refine VNew.mk fun b4 => ?_) | (refine VIx.is ?_; refine VIx.mk (h1.ptr (by omega)) (by omega) (by omega) ?_) | (refine VLd.is ?_; refine VLd.mk (Rd.cast (h1.rd0 (by simp) (fun _ => rfl) hx hxv) (by first | omega | (dsimp only; omega) | rfl)) ?_) | (refine VLd.is ?_; refine VLd.mk (Rd.cast (h1.rd (o := 2) (s := 1) (by simp) (fun _ => rfl) hx hxo2) (by first | omega | (dsimp only; omega) | rfl)) ?_) | (refine VCall.isF 160 ?_; refine VCall.inl (F := Tryz.fx160) Tryz.func160 rfl rfl rfl Tryz.ok160 ?_) | (refine VBit.is ?_; refine VBit.is ?_; refine VBit.and (by omega) (by omega) ?_; rw [hbdv2]) | (refine VSeq.go ?_) | (refine VB.is ?_; refine VB.yes (by omega) fun _ => ?_) | (refine VB.is ?_; refine VB.no (by omega) fun _ => ?_) | (refine VB.split (fun _ => ?_) (fun _ => ?_)) | (refine VLd.is ?_; refine VLd.mk (.row aT (by rfl)) ?_) | (refine VAr.is ?_; refine oA ?_)
  all_goals (conv => whnf)
  ·rw [hfd (hiff.2 (by omega))]
   exact ⟨fun w' hw' => ⟨rfl, hw'.le .nil⟩⟩
  ·refine VNext.mk (j + 1) ⟨by omega, hnx ?_⟩ (by omega) aE aH
   cases hh : hits key x with
   | false => rfl
   | true => exact absurd (hiff.1 hh) (by omega)
 have hjl : j = l.length := by omega
 subst hjl
 rw [List.take_length] at hb
 rw [findE_none hb]
 repeat' (conv => whnf); first | (refine VSeq.go ?_) | (refine VB.is ?_; refine VB.yes (by omega) fun _ => ?_) | (refine VB.is ?_; refine VB.no (by omega) fun _ => ?_)
 all_goals (conv => whnf)
 exact ⟨fun w' hw' => ⟨rfl, hw'.le .nil⟩⟩

theorem join_any (x y : Ety) (hx : EtyOk x) (hy : EtyOk y) (w : World) :
  Calls Tryz.prog 161 #[.agg (etyV x).toArray, .agg (etyV y).toArray] w fun e w' => e = .returned (.tuple #[.agg (etyV ((joinE x y).getD ⟨0, 0, 0⟩)).toArray, .bool (joinE x y).isSome]) ∧ St w [] [] w' := by
 have hxk := hx.key
 have hxm := hx.mask
 have hyk := hy.key
 have hym := hy.mask
 have hd := bxor_lt hxk hyk
 have hl1 := bless_le x.key (bxor x.key y.key)
 have hl2 := bless_le x.mask (bxor x.key y.key)
 have hjE : joinE x y = if x.mask ≠ y.mask ∨ x.outs ≠ y.outs ∨ ¬ isPow (bxor x.key y.key) then none else some ⟨bless x.key (bxor x.key y.key), bless x.mask (bxor x.key y.key), x.outs⟩ := rfl
 obtain ⟨d, hdd⟩ : ∃ d, bxor x.key y.key = d := ⟨_, rfl⟩
 have hdn : ((x.key.toNat ^^^ y.key.toNat : Nat) : Int) = d := hdd
 rw [hdd] at hd hl1 hl2 hjE
 have hln1 : ((x.key.toNat - (x.key.toNat &&& d.toNat) : Nat) : Int) = bless x.key d := rfl
 have hln2 : ((x.mask.toNat - (x.mask.toNat &&& d.toNat) : Nat) : Int) = bless x.mask d := rfl
 obtain ⟨l1, hl1d⟩ : ∃ l1, bless x.key d = l1 := ⟨_, rfl⟩
 obtain ⟨l2, hl2d⟩ : ∃ l2, bless x.mask d = l2 := ⟨_, rfl⟩
 rw [hl1d] at hln1 hl1 hjE
 rw [hl2d] at hln2 hl2 hjE
 obtain ⟨dn, hdnn⟩ : ∃ dn : Nat, d = (dn : Int) := ⟨d.toNat, by omega⟩
 subst hdnn
 have hoc := fun w' => onesCount_any dn (by omega) w'
 unfold etyV
 clear hdd hl1d hl2d
 refine enter (C := Tryz.cx) (F := Tryz.fx161) (args := [_, _]) Tryz.func161 rfl rfl rfl Tryz.ok161 (St.start w []) ?_
 repeat' (conv => whnf); first | (refine VNew.mk fun b4 => ?_) | (refine VBit.is ?_; refine VBit.is ?_; first | (refine VBit.xor (by omega) (by omega) ?_; rw [hdn]) | (refine VBit.less (by omega) (by omega) ?_; first | rw [hln1] | rw [hln2])) | (refine VCall.isF 186 ?_; (refine VCall.genR (fun w' _ => hoc w') ?_; rintro n hn)) | (refine VAr.is ?_; refine VAr.is ?_; refine VAr.u64g (by omega) (by omega) fun c hc => ?_; have hcd := Int.ofNat.inj hc; clear hc; subst hcd) | (refine VSeq.go ?_) | (refine VB.split (fun _ => ?_) (fun _ => ?_)) | (refine VLd.is ?_; refine VLd.mk (.row aT (by rfl)) ?_) | (refine VSt.is ?_; refine VSt.row aT (by rfl) (by first | rfl | assumption) ?_)
 all_goals (conv => whnf)
 all_goals first
  | (rw [hjE, if_pos (.inl (by omega))]
     exact ⟨fun w' hw' => ⟨rfl, hw'.le .nil⟩⟩)
  | (rw [hjE, if_pos (.inr (.inl (by omega)))]
     exact ⟨fun w' hw' => ⟨rfl, hw'.le .nil⟩⟩)
  | (rw [hjE, if_pos (.inr (.inr fun h => absurd (hn.2 h) (by omega)))]
     exact ⟨fun w' hw' => ⟨rfl, hw'.le .nil⟩⟩)
  | (rw [hjE, if_neg (by
    rintro (h | h | h)
    ·omega
    ·omega
    ·exact h (hn.1 (by omega)))]
     exact ⟨fun w' hw' => ⟨rfl, hw'.le .nil⟩⟩)

theorem validE (x : Ety) (hx : EtyOk x) (w : World) : Calls Tryz.prog 119 #[.agg (etyV x).toArray] w fun e w' => e = .returned (.bool true) ∧ St w [] [] w' := by
 have hxk := hx.key
 have hxm := hx.mask
 have hxo := hx.outs
 have hb : bless x.key x.mask = 0 := by
  have := hx.fits
  unfold bless band at *
  omega
 have hln1 : ((x.key.toNat - (x.key.toNat &&& x.mask.toNat) : Nat) : Int) = bless x.key x.mask := rfl
 unfold etyV
 refine enter (C := Tryz.cx) (F := Tryz.fx119) (args := [_]) Tryz.func119 rfl rfl rfl Tryz.ok119 (St.start w []) ?_
 repeat' (conv => whnf); first | (refine VNew.mk fun b4 => ?_) | (refine VBit.is ?_; refine VBit.is ?_; (refine VBit.less (by omega) (by omega) ?_; rw [hln1, hb])) | (refine VSeq.go ?_) | (refine VB.is ?_; refine VB.yes (by omega) fun _ => ?_) | (refine VLd.is ?_; refine VLd.mk (.row aT (by rfl)) ?_)
 all_goals (conv => whnf)
 all_goals first
  | exact ⟨fun w' hw' => ⟨rfl, hw'.le .nil⟩⟩
  | (exfalso; omega)

theorem noBadE (l : List Ety) (hl : ∀ x ∈ l, EtyOk x) (hlen : l.length ≤ 65536) (p : Option Addr) (c b o : Nat) (w : World) (h1 : Sl w etyV 3 l p l.length b o) :
  Calls Tryz.prog 117 #[.slice p l.length c, .func (.func 118) #[] #[]] w fun e w' => e = .returned (.bool false) ∧ St w [] [] w' := by
 refine enter (C := Tryz.cx) (F := Tryz.fx117) (args := [_, _]) Tryz.func117 rfl rfl rfl Tryz.ok117 (St.start w []) ?_
 repeat' (conv => whnf); first | (refine VCall.isF 158 ?_; refine VCall.inl (F := Tryz.fx158) Tryz.func158 rfl rfl rfl Tryz.ok158 ?_) | (refine VSeq.go ?_)
 all_goals (conv => whnf)
 refine VLoop.mk (α := Nat) (fun j => j ≤ l.length) (fun j => [(1000000, .tuple #[]), (0, .slice p l.length c), (1, .func (.func 118) #[] #[]), (4, .int .i64 0), (7, .int .i64 (l.length : Int)), (8, .int .i64 (j : Int))])
  (fun _ => []) (fun j => l.length - j) 0 (Nat.zero_le _) aE aH ?_
 rintro j hj
 rcases Nat.lt_or_ge j l.length with hlt | hge
 ·obtain ⟨x, hx⟩ := h1.get hlt
  have hv := fun w' => validE x (hl x (List.mem_of_getElem? hx)) w'
  have hxv : sub (etyV x) 0 3 = some [.int .i64 x.key, .int .i64 x.mask, .int .i64 x.outs] := rfl
  unfold etyV at hv
  repeat' (conv => whnf); first | (refine VNew.mk fun b4 => ?_) | (refine VIx.is ?_; refine VIx.mk (h1.ptr (by omega)) (by omega) (by omega) ?_) | (refine VLd.is ?_; refine VLd.mk (Rd.cast (h1.rd0 (by simp) (fun _ => rfl) hx hxv) (by first | omega | (dsimp only; omega) | rfl)) ?_) | (refine VCall.isF 118 ?_; refine VCall.inl (F := Tryz.fx118) Tryz.func118 rfl rfl rfl Tryz.ok118 ?_) | (refine VCall.isF 119 ?_; (refine VCall.valR (fun w' _ => hv w') ?_)) | (refine VSeq.go ?_) | (refine VB.is ?_; refine VB.yes (by omega) fun _ => ?_) | (refine VLd.is ?_; refine VLd.mk (.row aT (by rfl)) ?_) | (refine VAr.is ?_; refine oA ?_)
  all_goals (conv => whnf)
  exact VNext.mk (j + 1) (by omega) (by omega) aE aH
 have hjl : j = l.length := by omega
 subst hjl
 repeat' (conv => whnf); first | (refine VSeq.go ?_) | (refine VB.is ?_; refine VB.yes (by omega) fun _ => ?_) | (refine VB.is ?_; refine VB.no (by omega) fun _ => ?_)
 all_goals (conv => whnf)
 exact ⟨fun w' hw' => ⟨rfl, hw'.le .nil⟩⟩

theorem noBadK (l : List Int) (hl : ∀ x ∈ l, 0 ≤ x ∧ x ≤ 65535) (hlen : l.length ≤ 65536) (p : Option Addr) (c b o : Nat) (w : World) (h1 : Sl w intV 1 l p l.length b o) :
  Calls Tryz.prog 120 #[.slice p l.length c, .func (.func 121) #[] #[]] w fun e w' => e = .returned (.bool false) ∧ St w [] [] w' := by
 refine enter (C := Tryz.cx) (F := Tryz.fx120) (args := [_, _]) Tryz.func120 rfl rfl rfl Tryz.ok120 (St.start w []) ?_
 repeat' (conv => whnf); first | (refine VCall.isF 159 ?_; refine VCall.inl (F := Tryz.fx159) Tryz.func159 rfl rfl rfl Tryz.ok159 ?_) | (refine VSeq.go ?_)
 all_goals (conv => whnf)
 refine VLoop.mk (α := Nat) (fun j => j ≤ l.length) (fun j => [(1000000, .tuple #[]), (0, .slice p l.length c), (1, .func (.func 121) #[] #[]), (4, .int .i64 0), (7, .int .i64 (l.length : Int)), (8, .int .i64 (j : Int))])
  (fun _ => []) (fun j => l.length - j) 0 (Nat.zero_le _) aE aH ?_
 rintro j hj
 rcases Nat.lt_or_ge j l.length with hlt | hge
 ·obtain ⟨x, hx⟩ := h1.get hlt
  have hv := hl x (List.mem_of_getElem? hx)
  repeat' (conv => whnf); first | (refine VIx.is ?_; refine VIx.mk (h1.ptr (by omega)) (by omega) (by omega) ?_) | (refine VLd.is ?_; refine VLd.mk (Rd.cast (h1.rd0 (by simp) (fun _ => rfl) hx rfl) (by first | omega | (dsimp only; omega) | rfl)) ?_) | (refine VCall.isF 121 ?_; refine VCall.inl (F := Tryz.fx121) Tryz.func121 rfl rfl rfl Tryz.ok121 ?_) | (refine VSeq.go ?_) | (refine VB.is ?_; refine VB.yes (by omega) fun _ => ?_) | (refine VB.is ?_; refine VB.no (by omega) fun _ => ?_) | (refine VAr.is ?_; refine oA ?_)
  all_goals (conv => whnf)
  exact VNext.mk (j + 1) (by omega) (by omega) aE aH
 have hjl : j = l.length := by omega
 subst hjl
 repeat' (conv => whnf); first | (refine VSeq.go ?_) | (refine VB.is ?_; refine VB.yes (by omega) fun _ => ?_) | (refine VB.is ?_; refine VB.no (by omega) fun _ => ?_)
 all_goals (conv => whnf)
 exact ⟨fun w' hw' => ⟨rfl, hw'.le .nil⟩⟩

end Go.Proofs
