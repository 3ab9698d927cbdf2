import Derived.Test.YtjjcoiicikaaiaaGreatPlaceMapsPg
import Derived.Test.YtjjcoiicikaaiaaGreatPlaceMapsMz
set_option linter.unusedVariables false
set_option linter.unusedSimpArgs false
set_option maxHeartbeats 4000000
section

namespace Go.Proofs

open Go Go.Vx Go.Gm

def etyV (x : Ety) : List Value := [.int .i64 x.key, .int .i64 x.mask, .int .i64 x.outs]

theorem find_any (l : List Ety) (hl : ∀ x ∈ l, EtyOk x) (hlen : l.length ≤ 65536) (key : Int) (hk : 0 ≤ key ∧ key ≤ 65535) (p : Option Addr) (c b o : Nat) (w : World) (h1 : Sl w etyV 3 l p l.length b o) :
  Calls Tryz.prog 122 #[.slice p l.length c, .int .i64 key] w fun e w' => e = .returned (.tuple #[.int .i64 ((findE l key).getD 0), .bool (findE l key).isSome]) ∧ St w [] [] w' := by
 refine enter (C := Tryz.cx) (F := Tryz.fx122) (args := [_, _]) Tryz.func122 rfl rfl rfl Tryz.ok122 (St.start w []) ?_
 repeat' (conv => whnf); first | (refine VNew.mk fun b3 => ?_) | (refine VCall.isF 158 ?_; refine VCall.inl (F := Tryz.fx158) Tryz.func158 rfl rfl rfl Tryz.ok158 ?_) | (refine VSeq.go ?_)
 all_goals (conv => whnf)
 refine VLoop.mk (α := Nat) (fun j => j ≤ l.length ∧ ∀ y ∈ l.take j, hits key y = false) (fun j => [(1000000, .tuple #[]), (0, .slice p l.length c), (1, .func (.func 160) #[] #[.pointer (some ⟨b3, 0, none⟩)]), (4, .int .i64 0), (7, .int .i64 (l.length : Int)), (8, .int .i64 (j : Int))])
  (fun _ => [.row b3 3 [.int .i64 key]]) (fun j => l.length - j) 0 ⟨Nat.zero_le _, by simp⟩ aE aH ?_
 rintro j ⟨hj, hb⟩
 rcases Nat.lt_or_ge j l.length with hlt | hge
 ·obtain ⟨x, hx⟩ := h1.get hlt
  have hxo := hl x (List.mem_of_getElem? hx)
  have hxk := hxo.key
  have hxm := hxo.mask
  have hfd := fun h => findE_at (key := key) hx h hb
  have hnx : hits key x = false → ∀ y ∈ l.take (j + 1), hits key y = false := fun h y hy => by
   rw [List.take_add_one, hx] at hy
   rcases List.mem_append.1 hy with hy | hy
   ·exact hb y hy
   ·simp only [Option.toList_some, List.mem_singleton] at hy
    rw [hy]; exact h
  have hiff : hits key x = true ↔ band key x.mask = x.key := by unfold hits; rw [decide_eq_true_eq]
  have hbd := band_le key x.mask
  obtain ⟨bd, hbdv⟩ : ∃ bd, band key x.mask = bd := ⟨_, rfl⟩
  have hbdv2 : ((key.toNat &&& x.mask.toNat : Nat) : Int) = bd := hbdv
  rw [hbdv] at hiff hbd
  have hxv : sub (etyV x) 0 3 = some [.int .i64 x.key, .int .i64 x.mask, .int .i64 x.outs] := rfl
  have hxo2 : sub (etyV x) 2 1 = some [.int .i64 x.outs] := rfl
  clear hl hb hxo
  repeat' (conv => whnf); first | (refine VNew.mk fun b4 => ?_) | (refine VIx.is ?_; refine VIx.mk (h1.ptr (by omega)) (by omega) (by omega) ?_) | (refine VLd.is ?_; refine VLd.mk (Rd.cast (h1.rd0 (by simp) (fun _ => rfl) hx hxv) (by first | omega | (dsimp only; omega) | rfl)) ?_) | (refine VLd.is ?_; refine VLd.mk (Rd.cast (h1.rd (o := 2) (s := 1) (by simp) (fun _ => rfl) hx hxo2) (by first | omega | (dsimp only; omega) | rfl)) ?_) | (refine VCall.isF 160 ?_; refine VCall.inl (F := Tryz.fx160) Tryz.func160 rfl rfl rfl Tryz.ok160 ?_) | (refine VBit.is ?_; refine VBit.is ?_; refine VBit.and (by omega) (by omega) ?_; rw [hbdv2]) | (refine VSeq.go ?_) | (refine VB.is ?_; refine VB.yes (by omega) fun _ => ?_) | (refine VB.is ?_; refine VB.no (by omega) fun _ => ?_) | (refine VB.split (fun _ => ?_) (fun _ => ?_)) | (refine VLd.is ?_; refine VLd.mk (.row aT (by rfl)) ?_) | (refine VAr.is ?_; refine oA ?_)
  all_goals (conv => whnf)
  ·rw [hfd (hiff.2 (by omega))]
   exact ⟨fun w' hw' => ⟨rfl, hw'.le .nil⟩⟩
  ·refine VNext.mk (j + 1) ⟨by omega, hnx ?_⟩ (by omega) aE aH
   cases hh : hits key x with
   | false => rfl
   | true => exact absurd (hiff.1 hh) (by omega)
 have hjl : j = l.length := by omega
 subst hjl
 rw [List.take_length] at hb
 rw [findE_none hb]
 repeat' (conv => whnf); first | (refine VSeq.go ?_) | (refine VB.is ?_; refine VB.yes (by omega) fun _ => ?_) | (refine VB.is ?_; refine VB.no (by omega) fun _ => ?_)
 all_goals (conv => whnf)
 exact ⟨fun w' hw' => ⟨rfl, hw'.le .nil⟩⟩

theorem join_any (x y : Ety) (hx : EtyOk x) (hy : EtyOk y) (w : World) :
  Calls Tryz.prog 161 #[.agg (etyV x).toArray, .agg (etyV y).toArray] w fun e w' => e = .returned (.tuple #[.agg (etyV ((joinE x y).getD ⟨0, 0, 0⟩)).toArray, .bool (joinE x y).isSome]) ∧ St w [] [] w' := by
 have hxk := hx.key
 have hxm := hx.mask
 have hyk := hy.key
 have hym := hy.mask
 have hd := bxor_lt hxk hyk
 have hl1 := bless_le x.key (bxor x.key y.key)
 have hl2 := bless_le x.mask (bxor x.key y.key)
 have hjE : joinE x y = if x.mask ≠ y.mask ∨ x.outs ≠ y.outs ∨ ¬ isPow (bxor x.key y.key) then none else some ⟨bless x.key (bxor x.key y.key), bless x.mask (bxor x.key y.key), x.outs⟩ := rfl
 obtain ⟨d, hdd⟩ : ∃ d, bxor x.key y.key = d := ⟨_, rfl⟩
 have hdn : ((x.key.toNat ^^^ y.key.toNat : Nat) : Int) = d := hdd
 rw [hdd] at hd hl1 hl2 hjE
 have hln1 : ((x.key.toNat - (x.key.toNat &&& d.toNat) : Nat) : Int) = bless x.key d := rfl
 have hln2 : ((x.mask.toNat - (x.mask.toNat &&& d.toNat) : Nat) : Int) = bless x.mask d := rfl
 obtain ⟨l1, hl1d⟩ : ∃ l1, bless x.key d = l1 := ⟨_, rfl⟩
 obtain ⟨l2, hl2d⟩ : ∃ l2, bless x.mask d = l2 := ⟨_, rfl⟩
 rw [hl1d] at hln1 hl1 hjE
 rw [hl2d] at hln2 hl2 hjE
 obtain ⟨dn, hdnn⟩ : ∃ dn : Nat, d = (dn : Int) := ⟨d.toNat, by omega⟩
 subst hdnn
 have hoc := fun w' => onesCount_any dn (by omega) w'
 unfold etyV
 clear hdd hl1d hl2d
 refine enter (C := Tryz.cx) (F := Tryz.fx161) (args := [_, _]) Tryz.func161 rfl rfl rfl Tryz.ok161 (St.start w []) ?_
 repeat' (conv => whnf); first | (refine VNew.mk fun b4 => ?_) | (refine VBit.is ?_; refine VBit.is ?_; first | (refine VBit.xor (by omega) (by omega) ?_; rw [hdn]) | (refine VBit.less (by omega) (by omega) ?_; first | rw [hln1] | rw [hln2])) | (refine VCall.isF 186 ?_; (refine VCall.genR (fun w' _ => hoc w') ?_; rintro n hn)) | (refine VAr.is ?_; refine VAr.is ?_; refine VAr.u64g (by omega) (by omega) fun c hc => ?_; have hcd := Int.ofNat.inj hc; clear hc; subst hcd) | (refine VSeq.go ?_) | (refine VB.split (fun _ => ?_) (fun _ => ?_)) | (refine VLd.is ?_; refine VLd.mk (.row aT (by rfl)) ?_) | (refine VSt.is ?_; refine VSt.row aT (by rfl) (by first | rfl | assumption) ?_)
 all_goals (conv => whnf)
 all_goals first
  | (rw [hjE, if_pos (.inl (by omega))]
     exact ⟨fun w' hw' => ⟨rfl, hw'.le .nil⟩⟩)
  | (rw [hjE, if_pos (.inr (.inl (by omega)))]
     exact ⟨fun w' hw' => ⟨rfl, hw'.le .nil⟩⟩)
  | (rw [hjE, if_pos (.inr (.inr fun h => absurd (hn.2 h) (by omega)))]
     exact ⟨fun w' hw' => ⟨rfl, hw'.le .nil⟩⟩)
  | (rw [hjE, if_neg (by
    rintro (h | h | h)
    ·omega
    ·omega
    ·exact h (hn.1 (by omega)))]
     exact ⟨fun w' hw' => ⟨rfl, hw'.le .nil⟩⟩)

theorem validE (x : Ety) (hx : EtyOk x) (w : World) : Calls Tryz.prog 119 #[.agg (etyV x).toArray] w fun e w' => e = .returned (.bool true) ∧ St w [] [] w' := by
 have hxk := hx.key
 have hxm := hx.mask
 have hxo := hx.outs
 have hb : bless x.key x.mask = 0 := by
  have := hx.fits
  unfold bless band at *
  omega
 have hln1 : ((x.key.toNat - (x.key.toNat &&& x.mask.toNat) : Nat) : Int) = bless x.key x.mask := rfl
 unfold etyV
 refine enter (C := Tryz.cx) (F := Tryz.fx119) (args := [_]) Tryz.func119 rfl rfl rfl Tryz.ok119 (St.start w []) ?_
 repeat' (conv => whnf); first | (refine VNew.mk fun b4 => ?_) | (refine VBit.is ?_; refine VBit.is ?_; (refine VBit.less (by omega) (by omega) ?_; rw [hln1, hb])) | (refine VSeq.go ?_) | (refine VB.is ?_; refine VB.yes (by omega) fun _ => ?_) | (refine VLd.is ?_; refine VLd.mk (.row aT (by rfl)) ?_)
 all_goals (conv => whnf)
 all_goals first
  | exact ⟨fun w' hw' => ⟨rfl, hw'.le .nil⟩⟩
  | (exfalso; omega)

theorem noBadE (l : List Ety) (hl : ∀ x ∈ l, EtyOk x) (hlen : l.length ≤ 65536) (p : Option Addr) (c b o : Nat) (w : World) (h1 : Sl w etyV 3 l p l.length b o) :
  Calls Tryz.prog 117 #[.slice p l.length c, .func (.func 118) #[] #[]] w fun e w' => e = .returned (.bool false) ∧ St w [] [] w' := by
 refine enter (C := Tryz.cx) (F := Tryz.fx117) (args := [_, _]) Tryz.func117 rfl rfl rfl Tryz.ok117 (St.start w []) ?_
 repeat' (conv => whnf); first | (refine VCall.isF 158 ?_; refine VCall.inl (F := Tryz.fx158) Tryz.func158 rfl rfl rfl Tryz.ok158 ?_) | (refine VSeq.go ?_)
 all_goals (conv => whnf)
 refine VLoop.mk (α := Nat) (fun j => j ≤ l.length) (fun j => [(1000000, .tuple #[]), (0, .slice p l.length c), (1, .func (.func 118) #[] #[]), (4, .int .i64 0), (7, .int .i64 (l.length : Int)), (8, .int .i64 (j : Int))])
  (fun _ => []) (fun j => l.length - j) 0 (Nat.zero_le _) aE aH ?_
 rintro j hj
 rcases Nat.lt_or_ge j l.length with hlt | hge
 ·obtain ⟨x, hx⟩ := h1.get hlt
  have hv := fun w' => validE x (hl x (List.mem_of_getElem? hx)) w'
  have hxv : sub (etyV x) 0 3 = some [.int .i64 x.key, .int .i64 x.mask, .int .i64 x.outs] := rfl
  unfold etyV at hv
  repeat' (conv => whnf); first | (refine VNew.mk fun b4 => ?_) | (refine VIx.is ?_; refine VIx.mk (h1.ptr (by omega)) (by omega) (by omega) ?_) | (refine VLd.is ?_; refine VLd.mk (Rd.cast (h1.rd0 (by simp) (fun _ => rfl) hx hxv) (by first | omega | (dsimp only; omega) | rfl)) ?_) | (refine VCall.isF 118 ?_; refine VCall.inl (F := Tryz.fx118) Tryz.func118 rfl rfl rfl Tryz.ok118 ?_) | (refine VCall.isF 119 ?_; (refine VCall.valR (fun w' _ => hv w') ?_)) | (refine VSeq.go ?_) | (refine VB.is ?_; refine VB.yes (by omega) fun _ => ?_) | (refine VLd.is ?_; refine VLd.mk (.row aT (by rfl)) ?_) | (refine VAr.is ?_; refine oA ?_)
  all_goals (conv => whnf)
  exact VNext.mk (j + 1) (by omega) (by omega) aE aH
 have hjl : j = l.length := by omega
 subst hjl
 repeat' (conv => whnf); first | (refine VSeq.go ?_) | (refine VB.is ?_; refine VB.yes (by omega) fun _ => ?_) | (refine VB.is ?_; refine VB.no (by omega) fun _ => ?_)
 all_goals (conv => whnf)
 exact ⟨fun w' hw' => ⟨rfl, hw'.le .nil⟩⟩

theorem noBadK (l : List Int) (hl : ∀ x ∈ l, 0 ≤ x ∧ x ≤ 65535) (hlen : l.length ≤ 65536) (p : Option Addr) (c b o : Nat) (w : World) (h1 : Sl w intV 1 l p l.length b o) :
  Calls Tryz.prog 120 #[.slice p l.length c, .func (.func 121) #[] #[]] w fun e w' => e = .returned (.bool false) ∧ St w [] [] w' := by
 refine enter (C := Tryz.cx) (F := Tryz.fx120) (args := [_, _]) Tryz.func120 rfl rfl rfl Tryz.ok120 (St.start w []) ?_
 repeat' (conv => whnf); first | (refine VCall.isF 159 ?_; refine VCall.inl (F := Tryz.fx159) Tryz.func159 rfl rfl rfl Tryz.ok159 ?_) | (refine VSeq.go ?_)
 all_goals (conv => whnf)
 refine VLoop.mk (α := Nat) (fun j => j ≤ l.length) (fun j => [(1000000, .tuple #[]), (0, .slice p l.length c), (1, .func (.func 121) #[] #[]), (4, .int .i64 0), (7, .int .i64 (l.length : Int)), (8, .int .i64 (j : Int))])
  (fun _ => []) (fun j => l.length - j) 0 (Nat.zero_le _) aE aH ?_
 rintro j hj
 rcases Nat.lt_or_ge j l.length with hlt | hge
 ·obtain ⟨x, hx⟩ := h1.get hlt
  have hv := hl x (List.mem_of_getElem? hx)
  repeat' (conv => whnf); first | (refine VIx.is ?_; refine VIx.mk (h1.ptr (by omega)) (by omega) (by omega) ?_) | (refine VLd.is ?_; refine VLd.mk (Rd.cast (h1.rd0 (by simp) (fun _ => rfl) hx rfl) (by first | omega | (dsimp only; omega) | rfl)) ?_) | (refine VCall.isF 121 ?_; refine VCall.inl (F := Tryz.fx121) Tryz.func121 rfl rfl rfl Tryz.ok121 ?_) | (refine VSeq.go ?_) | (refine VB.is ?_; refine VB.yes (by omega) fun _ => ?_) | (refine VB.is ?_; refine VB.no (by omega) fun _ => ?_) | (refine VAr.is ?_; refine oA ?_)
  all_goals (conv => whnf)
  exact VNext.mk (j + 1) (by omega) (by omega) aE aH
 have hjl : j = l.length := by omega
 subst hjl
 repeat' (conv => whnf); first | (refine VSeq.go ?_) | (refine VB.is ?_; refine VB.yes (by omega) fun _ => ?_) | (refine VB.is ?_; refine VB.no (by omega) fun _ => ?_)
 all_goals (conv => whnf)
 exact ⟨fun w' hw' => ⟨rfl, hw'.le .nil⟩⟩

end Go.Proofs
end

section

namespace Go.Proofs

open Go Go.Vx Go.Gm

theorem _root_.Go.Vx.VCall.argA {P : Program} {w0 : World} {M : List Nat} {H : HP} {f : Nat} (x : Value) {xs : List Value} {K : Value → HP → Prop} (hh : VCall P w0 M H f (x :: xs) K) : VCall P w0 M H f (x :: xs) K := hh

theorem rfind_any (l : List Ety) (hl : ∀ x ∈ l, EtyOk x) (hlen : l.length ≤ 65536) (key : Int) (hk : 0 ≤ key ∧ key ≤ 65535) (p : Option Addr) (c b o : Nat) (w : World) (h1 : Sl w etyV 3 l p l.length b o) :
  Calls Tryz.prog 206 #[.slice p l.length c, .int .i64 key] w fun e w' => e = .returned (.tuple #[.int .i64 ((findE l key).getD 0), .bool (findE l key).isSome]) ∧ St w [] [] w' := by
 refine enter (C := Tryz.cx) (F := Tryz.fx206) (args := [_, _]) Tryz.func206 rfl rfl rfl Tryz.ok206 (St.start w []) ?_
 repeat' (conv => whnf); first | (refine VSeq.go ?_) | (refine VB.is ?_; refine VB.no (by omega) fun _ => ?_)
 all_goals (conv => whnf)
 refine VLoop.mk (α := Nat) (fun j => j ≤ l.length ∧ ∀ y ∈ l.take j, hits key y = false) (fun j => [(1000000, .tuple #[]), (0, .slice p l.length c), (1, .int .i64 key), (4, .int .i64 0), (5, .bool false), (6, .int .i64 (j : Int))])
  (fun _ => []) (fun j => l.length - j) 0 ⟨Nat.zero_le _, by simp⟩ aE aH ?_
 rintro j ⟨hj, hb⟩
 rcases Nat.lt_or_ge j l.length with hlt | hge
 ·obtain ⟨x, hx⟩ := h1.get hlt
  have hxo := hl x (List.mem_of_getElem? hx)
  have hxk := hxo.key
  have hxm := hxo.mask
  have hfd := fun h => findE_at (key := key) hx h hb
  have hnx : hits key x = false → ∀ y ∈ l.take (j + 1), hits key y = false := fun h y hy => by
   rw [List.take_add_one, hx] at hy
   rcases List.mem_append.1 hy with hy | hy
   ·exact hb y hy
   ·simp only [Option.toList_some, List.mem_singleton] at hy
    rw [hy]; exact h
  have hiff : hits key x = true ↔ band key x.mask = x.key := by unfold hits; rw [decide_eq_true_eq]
  have hbd := band_le key x.mask
  obtain ⟨bd, hbdv⟩ : ∃ bd, band key x.mask = bd := ⟨_, rfl⟩
  have hbdv2 : ((key.toNat &&& x.mask.toNat : Nat) : Int) = bd := hbdv
  rw [hbdv] at hiff hbd
  have hx0 : sub (etyV x) 0 1 = some [.int .i64 x.key] := rfl
  have hx1 : sub (etyV x) 1 1 = some [.int .i64 x.mask] := rfl
  have hx2 : sub (etyV x) 2 1 = some [.int .i64 x.outs] := rfl
  clear hl hb hxo
  repeat' (conv => whnf); first | (refine VIx.is ?_; refine VIx.mk (h1.ptr (by omega)) (by omega) (by omega) ?_) | (refine VLd.is ?_; refine VLd.mk (Rd.cast (h1.rd (o := 1) (s := 1) (by simp) (fun _ => rfl) hx hx1) (by first | omega | (dsimp only; omega) | rfl)) ?_) | (refine VLd.is ?_; refine VLd.mk (Rd.cast (h1.rd (o := 0) (s := 1) (by simp) (fun _ => rfl) hx hx0) (by first | omega | (dsimp only; omega) | rfl)) ?_) | (refine VLd.is ?_; refine VLd.mk (Rd.cast (h1.rd (o := 2) (s := 1) (by simp) (fun _ => rfl) hx hx2) (by first | omega | (dsimp only; omega) | rfl)) ?_) | (refine VBit.is ?_; refine VBit.is ?_; refine VBit.and (by omega) (by omega) ?_; rw [hbdv2]) | (refine VSeq.go ?_) | (refine VB.is ?_; refine VB.yes (by omega) fun _ => ?_) | (refine VB.split (fun _ => ?_) (fun _ => ?_)) | (refine VAr.is ?_; refine oA ?_) | (refine VHs.mk _ (.refl _) ?_)
  all_goals (conv => whnf)
  ·rw [hfd (hiff.2 (by omega))]
   exact ⟨fun w' hw' => ⟨rfl, hw'.le .nil⟩⟩
  ·refine VNext.mk (j + 1) ⟨by omega, hnx ?_⟩ (by omega) aE aH
   cases hh : hits key x with
   | false => rfl
   | true => exact absurd (hiff.1 hh) (by omega)
 have hjl : j = l.length := by omega
 subst hjl
 rw [List.take_length] at hb
 rw [findE_none hb]
 repeat' (conv => whnf); first | (refine VSeq.go ?_) | (refine VB.is ?_; refine VB.no (by omega) fun _ => ?_)
 all_goals (conv => whnf)
 exact ⟨fun w' hw' => ⟨rfl, hw'.le .nil⟩⟩

theorem rvalid_any (x : Ety) (hx : EtyOk x) (w : World) :
  Calls Tryz.prog 168 #[.agg (etyV x).toArray] w fun e w' => e = .returned (.bool true) ∧ St w [] [] w' := by
 have h1 := hx.key
 have h2 := hx.mask
 have h3 := hx.fits
 have h4 := hx.outs
 have h5 : ((x.key.toNat &&& x.mask.toNat : Nat) : Int) = x.key := h3
 clear h3
 unfold etyV
 refine enter (C := Tryz.cx) (F := Tryz.fx168) (args := [_]) Tryz.func168 rfl rfl rfl Tryz.ok168 (St.start w []) ?_
 repeat' (conv => whnf); first | (refine VBit.is ?_; refine VBit.is ?_; refine VBit.and (by omega) (by omega) ?_; rw [h5]) | (refine VSeq.go ?_) | (refine VB.is ?_; refine VB.yes (by omega) fun _ => ?_) | (refine VLd.is ?_; refine VLd.mk (.row aT (by rfl)) ?_) | (refine VNew.mk fun _ => ?_)
 all_goals (conv => whnf)
 all_goals first
  | exact ⟨fun w' hw' => ⟨rfl, hw'.le .nil⟩⟩
  | (exfalso; omega)

theorem r4same_any (l m : List Ety) (hl : ∀ x ∈ l, EtyOk x) (hm : ∀ x ∈ m, EtyOk x) (hll : l.length ≤ 1024) (hml : m.length ≤ 1024) (keys : List Int) (hk : ∀ k ∈ keys, 0 ≤ k ∧ k ≤ 65535) (hkl : keys.length ≤ 1024) (p : Option Addr) (c b o : Nat) (p2 : Option Addr) (c2 b2 o2 : Nat) (pk : Option Addr) (ck bk ok : Nat) (w : World) (h1 : Sl w etyV 3 l p l.length b o) (h2 : Sl w etyV 3 m p2 m.length b2 o2) (hsk : Sl w intV 1 keys pk keys.length bk ok) :
  Calls Tryz.prog 189 #[.slice p l.length c, .slice p2 m.length c2, .slice pk keys.length ck] w fun e w' => ∃ r : Bool, e = .returned (.bool r) ∧ (r = true ↔ sameE l m keys = true) ∧ St w [] [] w' := by
 have hf1 := fun key hk (w' : World) => rfind_any l hl (by omega) key hk p c b o w'
 have hf2 := fun key hk (w' : World) => rfind_any m hm (by omega) key hk p2 c2 b2 o2 w'
 refine enter (C := Tryz.cx) (F := Tryz.fx189) (args := [_, _, _]) Tryz.func189 rfl rfl rfl Tryz.ok189 (St.start w []) ?_
 repeat' (conv => whnf); first | (refine VSeq.go ?_) | (refine VB.is ?_; refine VB.no (by omega) fun _ => ?_)
 all_goals (conv => whnf)
 refine VLoop.mk (α := Nat) (fun j => j ≤ keys.length ∧ sameE l m (keys.take j) = true) (fun j => [(1000000, .tuple #[]), (0, .slice p l.length c), (1, .slice p2 m.length c2), (2, .slice pk keys.length ck), (6, .bool false), (7, .int .i64 (j : Int))])
  (fun _ => []) (fun j => keys.length - j) 0 ⟨Nat.zero_le _, rfl⟩ aE aH ?_
 rintro j ⟨hj, hb⟩
 rcases Nat.lt_or_ge j keys.length with hlt | hge
 ·obtain ⟨x, hx⟩ := hsk.get hlt
  have hxr := hk x (List.mem_of_getElem? hx)
  have g1 := fun (w' : World) h => hf1 x hxr w' h
  have g2 := fun (w' : World) h => hf2 x hxr w' h
  have hnx : findE l x = findE m x → sameE l m (keys.take (j + 1)) = true := fun h => by
   unfold sameE at hb ⊢
   rw [List.take_add_one, hx, Option.toList_some, List.all_append, hb]
   simp [h]
  have hno : findE l x ≠ findE m x → sameE l m keys = false := fun h => by
   unfold sameE
   rw [List.all_eq_false]
   exact ⟨x, List.mem_of_getElem? hx, by simpa using h⟩
  obtain ⟨u, hu⟩ : ∃ u, findE l x = u := ⟨_, rfl⟩
  obtain ⟨v, hv⟩ : ∃ v, findE m x = v := ⟨_, rfl⟩
  rw [hu] at g1 hnx hno
  rw [hv] at g2 hnx hno
  have hpos : u.getD 0 = v.getD 0 ↔ u = v := by rw [← hu, ← hv]; exact findE_pos hl hm x
  by_cases heq : u = v
  ·subst heq
   have hn := hnx rfl
   obtain ⟨ui, hui⟩ : ∃ ui, u.getD 0 = ui := ⟨_, rfl⟩
   obtain ⟨ub, hub⟩ : ∃ ub, u.isSome = ub := ⟨_, rfl⟩
   rw [hui, hub] at g1 g2
   repeat' (conv => whnf); first | (refine VB.is ?_; refine VB.is ?_; refine VB.no (p := ¬ _) (fun h => h (by simp)) fun _ => ?_) | (refine VIx.is ?_; refine VIx.mk (hsk.ptr (by omega)) (by omega) (by omega) ?_) | (refine VLd.is ?_; refine VLd.mk (Rd.cast (hsk.rd0 (by simp) (fun _ => rfl) hx rfl) (by first | omega | (dsimp only; omega) | rfl)) ?_) | (refine VCall.isF 206 ?_; (refine VCall.argA (.slice p l.length c) ?_; refine VCall.valR (fun w' hw' => g1 w' (h1.keep hw' (by simp))) ?_)) | (refine VCall.isF 206 ?_; (refine VCall.argA (.slice p2 m.length c2) ?_; refine VCall.valR (fun w' hw' => g2 w' (h2.keep hw' (by simp))) ?_)) | (refine VSeq.go ?_) | (refine VB.is ?_; refine VB.yes (by omega) fun _ => ?_) | (refine VAr.is ?_; refine oA ?_)
   all_goals (conv => whnf)
   all_goals first
    | exact VNext.mk (j + 1) ⟨by omega, hn⟩ (by omega) aE aH
    | trace_state
  ·have hne : u.getD 0 ≠ v.getD 0 := fun h => heq (hpos.1 h)
   have hno := hno heq
   obtain ⟨ui, hui⟩ : ∃ ui, u.getD 0 = ui := ⟨_, rfl⟩
   obtain ⟨vi, hvi⟩ : ∃ vi, v.getD 0 = vi := ⟨_, rfl⟩
   rw [hui] at g1 hne
   rw [hvi] at g2 hne
   repeat' (conv => whnf); first | (refine VIx.is ?_; refine VIx.mk (hsk.ptr (by omega)) (by omega) (by omega) ?_) | (refine VLd.is ?_; refine VLd.mk (Rd.cast (hsk.rd0 (by simp) (fun _ => rfl) hx rfl) (by first | omega | (dsimp only; omega) | rfl)) ?_) | (refine VCall.isF 206 ?_; (refine VCall.argA (.slice p l.length c) ?_; refine VCall.valR (fun w' hw' => g1 w' (h1.keep hw' (by simp))) ?_)) | (refine VCall.isF 206 ?_; (refine VCall.argA (.slice p2 m.length c2) ?_; refine VCall.valR (fun w' hw' => g2 w' (h2.keep hw' (by simp))) ?_)) | (refine VSeq.go ?_) | (refine VB.is ?_; refine VB.yes (by omega) fun _ => ?_)
   all_goals (conv => whnf)
   all_goals first
    | exact ⟨fun w' hw' => ⟨false, rfl, by rw [hno], hw'.le .nil⟩⟩
    | trace_state
 have hjl : j = keys.length := by omega
 subst hjl
 rw [List.take_length] at hb
 repeat' (conv => whnf); first | (refine VSeq.go ?_) | (refine VB.is ?_; refine VB.no (by omega) fun _ => ?_)
 all_goals (conv => whnf)
 exact ⟨fun w' hw' => ⟨true, rfl, by simp [hb], hw'.le .nil⟩⟩

theorem rbit_any (a b : Int) (ha : 0 ≤ a ∧ a ≤ 65535) (hb : 0 ≤ b ∧ b ≤ 65535) (w : World) :
  Calls Tryz.prog 188 #[.int .i64 a, .int .i64 b] w fun e w' => ∃ r : Int, e = .returned (.int .i64 r) ∧ (r = if isPow (bxor a b) then bxor a b else 0) ∧ St w [] [] w' := by
 have hx : ((a.toNat ^^^ b.toNat : Nat) : Int) = bxor a b := rfl
 obtain ⟨x, hxe⟩ : ∃ x, bxor a b = x := ⟨_, rfl⟩
 rw [hxe] at hx ⊢
 refine enter (C := Tryz.cx) (F := Tryz.fx188) (args := [_, _]) Tryz.func188 rfl rfl rfl Tryz.ok188 (St.start w []) ?_
 repeat' (conv => whnf); first | (refine VSeq.go ?_) | (refine VB.is ?_; refine VB.no (by omega) fun _ => ?_)
 all_goals (conv => whnf)
 refine VLoop.mk (α := Nat) (fun k => k ≤ 16 ∧ ∀ i, i < k → x ≠ ((2 ^ i : Nat) : Int)) (fun k => [(1000000, .tuple #[]), (0, .int .i64 a), (1, .int .i64 b), (4, .int .i64 0), (5, .int .i64 ((2 ^ k : Nat) : Int))])
  (fun _ => []) (fun k => 16 - k) 0 ⟨Nat.zero_le _, fun i hi => absurd hi (Nat.not_lt_zero _)⟩ aE aH ?_
 rintro k ⟨hk, hno⟩
 have hp1 : 2 ^ (k + 1) = 2 * 2 ^ k := by rw [Nat.pow_succ]; omega
 rcases Nat.lt_or_ge k 16 with hlt | hge
 ·have hp2 : 2 ^ k ≤ 32768 := by
   have : (2 : Nat) ^ k ≤ 2 ^ 15 := Nat.pow_le_pow_right (by omega) (by omega)
   omega
  have hyes : x = ((2 ^ k : Nat) : Int) → isPow x := fun h => ⟨k, hlt, h⟩
  have hnx : x ≠ ((2 ^ k : Nat) : Int) → ∀ i, i < k + 1 → x ≠ ((2 ^ i : Nat) : Int) := fun h i hi => by
   by_cases hik : i < k
   ·exact hno i hik
   ·have : i = k := by omega
    rw [this]; exact h
  obtain ⟨pw, hpw⟩ : ∃ pw, 2 ^ k = pw := ⟨_, rfl⟩
  rw [hpw] at hp1 hp2 hyes hnx ⊢
  have hsl : (2 : Int) * (pw : Int) = ((2 ^ (k + 1) : Nat) : Int) := by rw [hp1]; omega
  repeat' (conv => whnf); first | (refine VBit.is ?_; refine VBit.is ?_; refine VBit.xor (by omega) (by omega) ?_; rw [hx]) | (refine VAr.is ?_; refine VAr.is ?_; refine VAr.mul hsl (by omega) (by omega) ?_) | (refine VSeq.go ?_) | (refine VB.is ?_; refine VB.yes (by omega) fun _ => ?_) | (refine VB.split (fun _ => ?_) (fun _ => ?_))
  all_goals (conv => whnf)
  ·rename_i h
   exact ⟨fun w' hw' => ⟨_, rfl, by rw [if_pos (hyes h)]; exact h.symm, hw'.le .nil⟩⟩
  ·rename_i h
   exact VNext.mk (k + 1) ⟨by omega, hnx h⟩ (by omega) aE aH
 have hk16 : k = 16 := by omega
 subst hk16
 have hz : (if isPow x then x else 0) = 0 := if_neg fun ⟨i, hi, h⟩ => hno i hi h
 rw [hz]
 repeat' (conv => whnf); first | (refine VSeq.go ?_) | (refine VB.is ?_; refine VB.no (by omega) fun _ => ?_)
 all_goals (conv => whnf)
 all_goals first
  | exact ⟨fun w' hw' => ⟨_, rfl, rfl, hw'.le .nil⟩⟩
  | (exfalso; omega)

end Go.Proofs
end

section

namespace Go.Proofs

open Go Go.Vx Go.Gm

theorem Src.zero {w0 : World} {M : List Nat} {H : HP} {size : Nat} (q : Option Addr) : Src w0 M H q 0 size [] := by
 cases q with
 | none => exact .empty
 | some a => exact .none0

theorem rins_any (l : List Ety) (hl : ∀ x ∈ l, EtyOk x) (hlen : l.length ≤ 1024) (x : Ety) (hx : EtyOk x) (hlast : ∀ y ∈ l, y.key < x.key) (p : Option Addr) (c b o : Nat) (hc : l.length ≤ c) (w : World) (h1 : Sl w etyV 3 l p l.length b o) :
  Calls Tryz.prog 167 #[.slice p l.length c, .agg (etyV x).toArray] w fun e w' => ∃ z : Option Addr × Nat, e = .returned (.slice z.1 (l.length + 1) z.2) ∧ (∃ g, z.1 = some ⟨g, 0, none⟩) ∧ St w [] [.vec z.1 (l.length + 1) z.2 178 3 (flat etyV (l ++ [x]))] w' := by
 have hxk := hx.key
 have ev : etyV x = [.int .i64 x.key, .int .i64 x.mask, .int .i64 x.outs] := rfl
 rw [ev]
 refine enter (C := Tryz.cx) (F := Tryz.fx167) (args := [_, _]) Tryz.func167 rfl rfl rfl Tryz.ok167 (St.start w []) ?_
 repeat' (conv => whnf); first | (refine VNew.mk fun b3 => ?_) | (refine VSeq.go ?_)
 all_goals (conv => whnf)
 refine VLoop.mk (α := Nat) (fun j => j ≤ l.length) (fun j => [(1000000, .tuple #[]), (0, .slice p l.length c), (3, .pointer (some ⟨b3, 0, none⟩)), (4, .slice none 0 0), (5, .int .i64 (j : Int))])
  (fun _ => [.row b3 178 [.int .i64 x.key, .int .i64 x.mask, .int .i64 x.outs]]) (fun j => l.length - j) 0 (Nat.zero_le _) aE aH ?_
 rintro j hj
 rcases Nat.lt_or_ge j l.length with hlt | hge
 ·obtain ⟨y, hy⟩ := h1.get hlt
  have hyk := (hl y (List.mem_of_getElem? hy)).key
  have hyl := hlast y (List.mem_of_getElem? hy)
  have hy0 : sub (etyV y) 0 1 = some [.int .i64 y.key] := rfl
  repeat' (conv => whnf); first | (refine VIx.is ?_; refine VIx.mk (h1.ptr (by omega)) (by omega) (by omega) ?_) | (refine VLd.is ?_; refine VLd.mk (Rd.cast (h1.rd (o := 0) (s := 1) (by simp) (fun _ => rfl) hy hy0) (by first | omega | (dsimp only; omega) | rfl)) ?_) | (refine VSeq.go ?_) | (refine VB.is ?_; refine VB.yes (by omega) fun _ => ?_) | (refine VLd.is ?_; refine VLd.mk (.row aT (by rfl)) ?_) | (refine VAr.is ?_; refine oA ?_) | (refine VHs.mk _ (.refl _) ?_)
  all_goals (conv => whnf)
  exact VNext.mk (j + 1) (by omega) (by omega) aE (HLe.refl _)
 have hjl : j = l.length := by omega
 subst hjl
 repeat' (conv => whnf); first | (refine VNew.mk fun bn => ?_) | (refine VSl.is ?_; refine VSl.is ?_; refine VSl.cut0 hc ?_) | (refine VSl.is ?_; refine VSl.is ?_; refine VSl.mk (by omega) (by omega) (by omega) (fun q _ _ => ?_); simp only [Int.toNat_natCast, Nat.sub_self]) | (refine VAp.is ?_; refine VAp.own aT (Src.zero _) (by simp) (by (try dsimp only); omega) (by simp only [maxLen]; omega) fun p3 c3 hp3 => ?_) | (refine VAp.is ?_; refine VAp.own aT (h1.src (by simp) (fun _ => rfl)) (flat_one_cell (by simp [etyV, Value.oneCell'])) (by (try dsimp only); omega) (by simp only [maxLen]; omega) fun p1 c1 hp1 => ?_) | (refine VAp.is ?_; refine VAp.own aT (.at_ (.vec aT rfl)) (by simp [Value.oneCell']) (by (try dsimp only); omega) (by simp only [maxLen]; omega) fun p2 c2 hp2 => ?_) | (refine VSeq.go ?_) | (refine VB.is ?_; refine VB.no (by omega) fun _ => ?_) | (refine VLd.is ?_; refine VLd.mk (.row aT (by rfl)) ?_) | (refine VKeep.is ?_; refine VKeep.mk aH ?_) | (refine VHs.mk _ (.refl _) ?_) | (refine And.intro ?_ ?_)
 all_goals (conv => whnf)
 all_goals
  refine ⟨fun w' hw' => ⟨(p3, c3), ?_, hp3 (by omega), ?_⟩⟩
  ·show Ending.returned (.slice p3 (0 + l.length + 1 + 0) c3) = _
   rw [Nat.add_zero, Nat.zero_add]
  ·have hh := hw'.le (HLe.cons .here .nil)
   have e : flat etyV (l ++ [x]) = flat etyV l ++ [.int .i64 x.key, .int .i64 x.mask, .int .i64 x.outs] := by rw [flat_append, flat_one]; rfl
   rw [e]
   rw [Nat.add_zero, Nat.zero_add, List.append_nil] at hh
   exact hh

end Go.Proofs
end
