/- Needed by segNeeds, part 3: texts put together by shake.py; no condition. -/
import Derived.Test.YtkipiefcnjfdjaaGreatW2
import Derived.Laws.IdiomStrings
import Derived.Laws.BytesArg
import Derived.Test.YtkipiefcnjfdjaaGreatW1
import Derived.Lib.SlBytesConst
import Derived.Deep.RegionHeld3
import Derived.IntWalk
import Derived.ScopeJumps
import Derived.WalkMore
import Derived.Deep.Cut
import Derived.BigRegion
import Derived.RegionTactic
import Derived.Laws.MakeOwn
import Derived.Laws.Bits64
import Derived.Laws.BitsAllLaws
import Derived.Lib.ConvBytes
import Derived.Laws.AppendOwn
namespace Go.Proofs.YtkipiefcnjfdjaaGreat
open Go.RowKit Go.Bs Go.Maps
set_option linter.unusedVariables false
set_option linter.unusedSimpArgs false
structure TokAt (w wr : World) (N0 N1 gs g mb base : Nat) (b : List UInt8) (sa : Option Addr) (sc : Nat) (ab : Option Addr) (cb : Nat) (a : Option Addr) (c : Nat) (p i nn : Nat) (av : Option Addr) (cv : Nat) (ap : Option Addr) (cp : Nat) (L : List Tok) (cells : List (List Value)) : Prop where
 pb : p ≤ b.length
 ip : i ≤ p
 np : nn ≤ p
 bb : Blk wr w.heap.size 28 #[.slice a b.length c]
 bo : Blk wr (w.heap.size + 1) 240 #[.slice av L.length cv]
 bf : Blk wr (w.heap.size + 2) 3 #[.int .i64 (i : Int)]
 own : OwnElsF (fun q => N1 ≤ q ∧ q < wr.heap.size ∧ (Value.slice ap nn cp).ownBlock ≠ some q) rTok N1 253 3 wr (.slice av L.length cv) L cells
 sk : SkAt wr gs g mb base N0 N1 b nn sa sc ab cb ap cp
 apart : ∀ q, (Value.slice av L.length cv).ownBlock = some q → (Value.slice ap nn cp).ownBlock ≠ some q
 len : L.length ≤ p
 toks : L ++ toksA b p i = toksR b
 below : Below w.heap.size w wr
 n0 : N0 = w.heap.size + 3
 n1 : N0 ≤ gs ∧ gs < N1 ∧ N0 ≤ g ∧ g < N1 ∧ N0 ≤ mb ∧ mb < N1 ∧ N0 ≤ base
theorem TokAt.top {w wr : World} {N0 N1 gs g mb base : Nat} {b : List UInt8} {sa : Option Addr} {sc : Nat} {ab : Option Addr} {cb : Nat} {a : Option Addr} {c : Nat} {p i nn : Nat} {av : Option Addr} {cv : Nat} {ap : Option Addr} {cp : Nat} {L : List Tok} {cells : List (List Value)}
  (h : TokAt w wr N0 N1 gs g mb base b sa sc ab cb a c p i nn av cv ap cp L cells) : N1 ≤ wr.heap.size := h.sk.top
theorem TokAt.best {w wr w1 : World} {N0 N1 gs g mb base : Nat} {b : List UInt8} {sa : Option Addr} {sc : Nat} {ab : Option Addr} {cb : Nat} {a : Option Addr} {c : Nat} {p i nn m : Nat} {av : Option Addr} {cv : Nat} {ap : Option Addr} {cp : Nat} {L : List Tok} {cells : List (List Value)}
  (h : TokAt w wr N0 N1 gs g mb base b sa sc ab cb a c p i nn av cv ap cp L cells) (hs : SkStep wr gs g mb base N0 N1 b nn m sa sc ab cb ap cp w1) (hm : m ≤ p) :
  ∃ ap' cp', TokAt w w1 N0 N1 gs g mb base b sa sc ab cb a c p i m av cv ap' cp' L cells := by
 obtain ⟨ap', cp', h1, h2, h3⟩ := hs
 have htop := h.top
 have hn0 := h.n0
 obtain ⟨k1, k2, k3, k4, k5, k6, k7⟩ := h.n1
 have hsz := h2.size
 have hapb : ∀ q, (Value.slice ap nn cp).ownBlock = some q → N0 ≤ q ∧ q < wr.heap.size := fun q hq => by
  have := h.sk.ch.prev.lt q hq
  exact ⟨by omega, this.2⟩
 have hlow : ∀ q, q < N0 → ¬ (q = gs ∨ q = g ∨ q = mb ∨ (Value.slice ap nn cp).ownBlock = some q) := fun q hq e => by
  rcases e with e | e | e | e
  ·omega
  ·omega
  ·omega
  ·have := (hapb q e).1; omega
 have hav := fun q (hq : (Value.slice av L.length cv).ownBlock = some q) => h.own.1.lt q hq
 have hnew : ∀ q, q < wr.heap.size → (Value.slice ap nn cp).ownBlock ≠ some q → (Value.slice ap' m cp').ownBlock ≠ some q := fun q hq hne e => by
  rcases h3 with h3 | ⟨q', hq', hlt⟩
  ·rw [h3] at e; exact hne e
  ·rw [hq'] at e; have := Option.some.inj e; omega
 refine ⟨ap', cp', ⟨h.pb, h.ip, hm, h.bb.tch h2 (hlow _ (by omega)), h.bo.tch h2 (hlow _ (by omega)), h.bf.tch h2 (hlow _ (by omega)), ?_, h1, fun q hq => hnew q (hav q hq).2 (h.apart q hq), h.len, h.toks, h.below.trans (h2.to_below (by omega) fun q hq e => ?_), h.n0, h.n1⟩⟩
 ·refine (h.own.keep (w' := w1) (fun q hq => h2.block q hq.2.1 (fun e => ?_)) (fun q hq => h2.block q (hav q hq).2 (fun e => ?_))).mono fun q hq => ⟨hq.1, by omega, hnew q hq.2.1 hq.2.2⟩
  ·rcases e with e | e | e | e
   ·omega
   ·omega
   ·omega
   ·exact hq.2.2 e
  ·have := (hav q hq).1
   rcases e with e | e | e | e
   ·omega
   ·omega
   ·omega
   ·exact h.apart q hq e
 ·by_cases hq0 : q < N0
  ·exact absurd e (hlow q hq0)
  ·omega
theorem TokAt.out {w wr w1 : World} {N0 N1 gs g mb base : Nat} {b : List UInt8} {sa : Option Addr} {sc : Nat} {ab : Option Addr} {cb : Nat} {a : Option Addr} {c : Nat} {p i nn : Nat} {av : Option Addr} {cv : Nat} {ap : Option Addr} {cp : Nat} {L : List Tok} {cells : List (List Value)}
  (h : TokAt w wr N0 N1 gs g mb base b sa sc ab cb a c p i nn av cv ap cp L cells) {p' i' : Nat} {av' : Option Addr} {cv' : Nat} {L' : List Tok} {cells' : List (List Value)} (hp : p' ≤ b.length) (hi : i' ≤ p') (hn : nn ≤ p')
  (hf : Blk w1 (w.heap.size + 2) 3 #[.int .i64 (i' : Int)]) (ho : Blk w1 (w.heap.size + 1) 240 #[.slice av' L'.length cv'])
  (hown : OwnElsF (fun q => (N1 ≤ q ∧ q < wr.heap.size ∧ (Value.slice ap nn cp).ownBlock ≠ some q) ∨ (wr.heap.size ≤ q ∧ q < w1.heap.size)) rTok N1 253 3 w1 (.slice av' L'.length cv') L' cells')
  (ht : Tch (fun q => q = w.heap.size + 1 ∨ q = w.heap.size + 2 ∨ (Value.slice av L.length cv).ownBlock = some q) wr w1) (hat : (Value.slice av' L'.length cv').ownBlock = (Value.slice av L.length cv).ownBlock ∨ ∃ q, (Value.slice av' L'.length cv').ownBlock = some q ∧ wr.heap.size ≤ q)
  (hlen : L'.length ≤ p') (htok : L' ++ toksA b p' i' = toksR b) : TokAt w w1 N0 N1 gs g mb base b sa sc ab cb a c p' i' nn av' cv' ap cp L' cells' := by
 have htop := h.top
 have hn0 := h.n0
 obtain ⟨k1, k2, k3, k4, k5, k6, k7⟩ := h.n1
 have hsz := ht.size
 have hapb : ∀ q, (Value.slice ap nn cp).ownBlock = some q → N0 ≤ q ∧ q < wr.heap.size := fun q hq => by
  have := h.sk.ch.prev.lt q hq
  exact ⟨by omega, this.2⟩
 have hav := fun q (hq : (Value.slice av L.length cv).ownBlock = some q) => h.own.1.lt q hq
 have hmid : ∀ q, N0 ≤ q → q < N1 → ¬ (q = w.heap.size + 1 ∨ q = w.heap.size + 2 ∨ (Value.slice av L.length cv).ownBlock = some q) := fun q h1 h2 e => by
  rcases e with e | e | e
  ·omega
  ·omega
  ·have := (hav q e).1; omega
 obtain ⟨t, hgs⟩ := h.sk.blk
 refine ⟨hp, hi, hn, h.bb.tch ht (fun e => ?_), ho, hf, hown.mono fun q hq => ?_, h.sk.tch ht (hmid g k3 k4) (hmid mb k5 k6) (fun q hq e => ?_) (fun q h1 h2 _ => hmid q h1 h2) ⟨t, hgs.tch ht (hmid gs k1 k2)⟩, fun q hq e => ?_, hlen, htok, h.below.trans (ht.to_below h.below.size fun q hq e => ?_), h.n0, h.n1⟩
 ·rcases e with e | e | e
  ·omega
  ·omega
  ·have := (hav _ e).1; omega
 ·rcases hq with hq | hq
  ·exact ⟨hq.1, by omega, hq.2.2⟩
  ·exact ⟨by omega, hq.2, fun e => by have := (hapb q e).2; omega⟩
 ·rcases e with e | e | e
  ·have := (hapb q hq).1; omega
  ·have := (hapb q hq).1; omega
  ·exact h.apart q e hq
 ·rcases hat with hat | ⟨q', hq', hlt⟩
  ·rw [hat] at hq; exact h.apart q hq e
  ·rw [hq'] at hq; have := Option.some.inj hq; have := (hapb q e).2; omega
 ·rcases e with e | e | e
  ·omega
  ·omega
  ·have := (hav q e).1; omega
end Go.Proofs.YtkipiefcnjfdjaaGreat
namespace Go.Bs
open Go.RowKit
end Go.Bs
namespace Go.Proofs.YtkipiefcnjfdjaaGreat
open Go.RowKit Go.Bs Go.Maps
set_option linter.unusedVariables false
set_option linter.unusedSimpArgs false
def runB (t : Tok) : Bool := decide (t.off = 0) && (decide (t.len = 0) && (decide (1 ≤ t.lit.length) && decide (t.lit.length ≤ 1048576)))
end Go.Proofs.YtkipiefcnjfdjaaGreat
namespace Go.Proofs.YtkipiefcnjfdjaaGreat
open Go.RowKit Go.Bs Go.Maps
set_option linter.unusedVariables false
set_option linter.unusedSimpArgs false
theorem lit_bytes {w : World} {g : Nat} {t : TypeId} {fr : Nat × Nat} {l : List UInt8} {cs : Array Value} (hcs : cs = (byteCells l).toArray) (hl : l.length ≤ 1000000) (hb : w.heap[g]? = some (.cells cs t fr)) : rBytes.r (· < w.heap.size) w [.slice (some ⟨g, 0, none⟩) l.length l.length] l := by
 subst hcs
 refine rSl_mk (xs := l) rfl (Nat.le_refl _) (by simp [maxLen]; omega) (.inr ⟨g, 0, rfl, (Array.getElem?_eq_some_iff.1 hb).1, fun i x hi => ⟨[.int .u8 (x.toNat : Int)], rfl, fun j v hj => ?_, rfl⟩⟩)
 have hj0 : j = 0 := by
  rcases j with _ | j
  ·rfl
  ·simp at hj
 subst hj0
 simp at hj
 subst hj
 rw [Nat.zero_add, Nat.mul_one, Nat.add_zero]
 simp [World.cell?, hb, byteCells, hi]
end Go.Proofs.YtkipiefcnjfdjaaGreat
namespace Go.Bs
def varF : Nat → Nat → List UInt8
 | 0, x => [UInt8.ofNat x]
 | f + 1, x => if x < 128 then [UInt8.ofNat x] else UInt8.ofNat (128 + x % 128) :: varF f (x / 128)
def varB (x : Nat) : List UInt8 := varF 9 x
theorem varF_more : ∀ (f g x : Nat), x < 128 ^ (f + 1) → f ≤ g → varF f x = varF g x
 | 0, 0, _, _, _ => rfl
 | 0, g + 1, x, h, _ => by
  have : x < 128 := by simpa using h
  simp [varF, this]
 | f + 1, 0, _, _, h => by omega
 | f + 1, g + 1, x, h, hg => by
  simp only [varF]
  split
  ·rfl
  ·rw [varF_more f g (x / 128) (by rw [Nat.pow_succ] at h; omega) (by omega)]
theorem varB_small {x : Nat} (h : x < 128) : varB x = [UInt8.ofNat x] := by simp [varB, varF, h]
theorem varB_step {x : Nat} (h : ¬ x < 128) (hx : x < 2 ^ 64) : varB x = UInt8.ofNat (128 + x % 128) :: varB (x / 128) := by
 have e : varF 8 (x / 128) = varF 9 (x / 128) := varF_more 8 9 _ (by omega) (by omega)
 unfold varB
 rw [← e]
 simp [varF, h]
theorem varB_len (x : Nat) : (varB x).length ≤ 10 ∧ 1 ≤ (varB x).length := by
 have : ∀ f x, (varF f x).length ≤ f + 1 ∧ 1 ≤ (varF f x).length := by
  intro f
  induction f with
  | zero => intro x; simp [varF]
  | succ f ih => intro x; simp only [varF]; split <;> simp; exact (ih _).1
 exact this 9 x
end Go.Bs
namespace Go.Proofs.YtkipiefcnjfdjaaGreat
open Go.RowKit Go.Bs Go.Maps
set_option linter.unusedVariables false
set_option linter.unusedSimpArgs false
set_option maxHeartbeats 1600000 in
theorem varint_size (x : Nat) (hx : x < 18446744073709551616) (w : World) :
  Calls Tryz.prog 191 #[.int .u64 x] w fun r w' => r = .returned (.int .i64 (varB x).length) ∧ Below w.heap.size w w' := by
 go_enter Tryz.func191, Tryz.ntmps191
 go_wp2_with fail
 go_loopw [0, 3] (fun y n wr => ∃ v k : Nat, y = .int .u64 v ∧ n = .int .i64 k ∧ v < 18446744073709551616 ∧ k ≤ 10 ∧ 1 ≤ k ∧ Hid ((varB x).length + 1 = k + (varB v).length) ∧ Below w.heap.size w wr) (fun y _ _ => (intOf y).toNat)
 case atStart => exact ⟨x, 1, rfl, rfl, hx, by omega, by omega, hid (by omega), Below.refl _ _⟩
 case round =>
  obtain ⟨v, k, rfl, rfl, hv, hk, hk1, hs, hb⟩ := hrel
  by_cases h : v < 128
  ·have d1 : decide ((128 : Int) ≤ (v : Int)) = false := by simp; omega
   have hf : Hid ((varB x).length = k) := hid (by have := hs.out; rw [varB_small h] at this; simpa using this)
   go_wp2
   go_ret
   exact ⟨by rw [hf.out]; rfl, hb⟩
  ·have d1 : decide ((128 : Int) ≤ (v : Int)) = true := by simp; omega
   have hn : Hid ((varB x).length + 1 = k + 1 + (varB (v / 128)).length) := hid (by have := hs.out; rw [varB_step h (by omega)] at this; simp at this; omega)
   have hk10 : k + 1 ≤ 10 := by have := hn.out; have := varB_len x; have := varB_len (v / 128); omega
   go_wp2_with fail
   go_outline
   go_roundw
   case rel => exact ⟨v / 128, k + 1, by go_num, by go_num, by omega, by omega, by omega, hn, hb⟩
   case measure => simp [intOf]; omega
end Go.Proofs.YtkipiefcnjfdjaaGreat
namespace Go.Bs
open Go.RowKit
theorem own_new1 {w : World} {base g : Nat} {e : TypeId} {v : Value} (hb : base ≤ g) (h : w.heap[g]? = some (.cells #[v] e (0, 0))) : w.ownsRow base e 1 (.slice (some ⟨g, 0, none⟩) 1 1) 1 [v] :=
 ⟨rfl, .inr ⟨g, 1, #[v], rfl, hb, h, Nat.le_refl _, by decide, rfl, rfl⟩⟩
theorem byteCells_snoc (J : List UInt8) (b : UInt8) : byteCells J ++ [.int .u8 (b.toNat : Int)] = byteCells (J ++ [b]) := by simp [byteCells]
theorem byte_small {x : Nat} (h : x < 256) : (x : Int) = ((UInt8.ofNat x).toNat : Int) := by
 simp; omega
theorem or128 : ∀ n : Nat, n < 256 → bits .or .u8 (n : Int) 128 = 128 + (n : Int) % 128 := by decide +kernel
theorem or128b (v : Nat) : bits .or .u8 ((v : Int) % 256) 128 = ((UInt8.ofNat (128 + v % 128)).toNat : Int) := by
 have h := or128 (v % 256) (by omega)
 rw [show (((v % 256 : Nat)) : Int) = (v : Int) % 256 by omega] at h
 rw [h, ← byte_small (by omega)]
 omega
end Go.Bs
namespace Go.Proofs.YtkipiefcnjfdjaaGreat
open Go.RowKit Go.Bs Go.Maps
set_option linter.unusedVariables false
set_option linter.unusedSimpArgs false
set_option maxRecDepth 100000 in
set_option maxHeartbeats 1600000 in
theorem varint_bytes (x : Nat) (hx : x < 18446744073709551616) (w : World) :
  Calls Tryz.prog 134 #[.int .u64 x] w fun r w' => ∃ v, r = .returned v ∧ rBytes.r (fun b => w.heap.size ≤ b ∧ b < w'.heap.size) w' [v] (varB x) ∧ Below w.heap.size w w' := by
 obtain ⟨i0, hi, hz0, hz1, hz2⟩ := info_parts info8
 go_enter Tryz.func134, Tryz.ntmps134
 go_wp2_with fail
 go_loopw [0, 3] (fun y o wr => ∃ (v : Nat) (J : List UInt8), y = .int .u64 v ∧ v < 18446744073709551616 ∧ wr.ownsRow w.heap.size 5 1 o J.length (byteCells J) ∧ Hid (varB x = J ++ varB v) ∧ Below w.heap.size w wr) (fun y _ _ => (intOf y).toNat)
 case atStart => exact ⟨x, [], rfl, hx, ⟨rfl, .inl ⟨rfl, rfl⟩⟩, hid rfl, Below.refl _ _⟩
 case round =>
  obtain ⟨v, J, rfl, hv, hown, hs, hb⟩ := hrel
  have hbs := hb.size
  have hJ : J.length ≤ 10 := by have h1 := varB_len x; rw [hs.out] at h1; simp at h1; omega
  obtain ⟨aJ, cJ, rfl⟩ := own_form hown
  have HO := hid hown
  clear hown
  by_cases h : v < 128
  ·have d1 : decide ((128 : Int) ≤ (v : Int)) = false := by simp; omega
   have hfin : Hid (varB x = J ++ [UInt8.ofNat v]) := hid (by rw [hs.out, varB_small h])
   have hby : Hid ((v : Int) = ((UInt8.ofNat v).toNat : Int)) := hid (byte_small (by omega))
   go_wp2_with (at_builtin; go_loud (refine wpList_append_src rfl _ _ _ rfl w.heap.size 5 i0 (.int .u8 0) 1 1 Tryz.underlying28 hi hz0 hz1 hz2 rfl (by decide) (.slice aJ J.length cJ) J.length (byteCells J) rfl (own_below HO.out (by (repeat first | exact zR | assumption | apply zA | apply zS | apply zD | apply zN | refine zT (by assumption) ?_ | omega | simp <;> omega))) (some ⟨wr.heap.size, 0, none⟩) 1 1 [.int .u8 (v : Int)] rfl (src_new1 wr 5 _ rfl rfl rfl) (by intro u hu; simp at hu; subst hu; rfl) (by simp only [maxLen]; omega) (by omega) (by simp; omega) ?_; intro v' w1 hown1 hgrow1 hat1; have HG := hid hgrow1; have HO1 := hid hown1; clear hgrow1 hown1 hat1))
   have ho := HO1.out
   rw [hby.out, byteCells_snoc, ← hfin.out] at ho
   have hlen : J.length + 1 = (varB x).length := by rw [hfin.out]; simp
   have hV := own_bytes2 hlen ho
   have hB : Below w.heap.size w w1 := Below.grown (by (repeat first | exact zR | assumption | apply zA | apply zS | apply zD | apply zN | refine zT (by assumption) ?_ | omega | simp <;> omega)) HG.out (by simp; omega) (fun g e => (HO.out.lt g e).1)
   have HV := hid hV
   clear ho hlen hV
   go_wp2
   go_ret
   exact ⟨_, rfl, HV.out, hB⟩
  ·have d1 : decide ((128 : Int) ≤ (v : Int)) = true := by simp; omega
   have hfin : Hid (varB x = (J ++ [UInt8.ofNat (128 + v % 128)]) ++ varB (v / 128)) := hid (by rw [hs.out, varB_step h (by omega)]; simp)
   have hor := or128b v
   generalize UInt8.ofNat (128 + v % 128) = bb at *
   go_wp2_with (at_builtin; go_loud (refine wpList_append_src rfl _ _ _ rfl w.heap.size 5 i0 (.int .u8 0) 1 1 Tryz.underlying28 hi hz0 hz1 hz2 rfl (by decide) (.slice aJ J.length cJ) J.length (byteCells J) rfl (own_below HO.out (by (repeat first | exact zR | assumption | apply zA | apply zS | apply zD | apply zN | refine zT (by assumption) ?_ | omega | simp <;> omega))) (some ⟨wr.heap.size, 0, none⟩) 1 1 [.int .u8 (bb.toNat : Int)] rfl (src_new1 wr 5 _ rfl rfl rfl) (by intro u hu; simp at hu; subst hu; rfl) (by simp only [maxLen]; omega) (by omega) (by simp; omega) ?_; intro v' w1 hown1 hgrow1 hat1; have HG := hid hgrow1; have HO1 := hid hown1; clear hgrow1 hown1 hat1))
   have ho := HO1.out
   rw [byteCells_snoc] at ho
   have hB : Below w.heap.size w w1 := Below.grown (by (repeat first | exact zR | assumption | apply zA | apply zS | apply zD | apply zN | refine zT (by assumption) ?_ | omega | simp <;> omega)) HG.out (by simp; omega) (fun g e => (HO.out.lt g e).1)
   have HO2 := hid ho
   clear ho HO1
   go_wp2_with fail
   go_roundw
   case rel => exact ⟨v / 128, J ++ [bb], by go_num, by omega, (by rw [List.length_append]; exact HO2.out), hfin, hB⟩
   case measure => simp [intOf]; omega
end Go.Proofs.YtkipiefcnjfdjaaGreat
namespace Go.Proofs.YtkipiefcnjfdjaaGreat
open Go.RowKit Go.Bs Go.Maps
set_option linter.unusedVariables false
set_option linter.unusedSimpArgs false
structure PenAt (w : World) (g base most : Nat) (J : List UInt8) (a : Option Addr) (c : Nat) : Prop where
 blk : Blk w g 109 #[.int .i64 most, .slice a J.length c, .int .i64 0]
 own : w.ownsRow base 5 1 (.slice a J.length c) J.length (byteCells J)
 ne : (Value.slice a J.length c).ownBlock ≠ some g
 lo : base ≤ g
 le : J.length ≤ most
 most : most ≤ 4611686018427387904
 len : J.length ≤ 100000000000000
def PenF (g : Nat) (a : Option Addr) (q : Nat) : Prop := q = g ∨ ∃ p, a = some p ∧ p.block = q
theorem own_slice {a : Option Addr} {n c : Nat} : (Value.slice a n c).ownBlock = a.map Addr.block := by cases a <;> rfl
def PenStep (w : World) (g base most : Nat) (J' : List UInt8) (a : Option Addr) (w' : World) : Prop :=
 ∃ a' c', PenAt w' g base most J' a' c' ∧ Tch (PenF g a) w w' ∧ (a'.map Addr.block = a.map Addr.block ∨ ∃ q, a'.map Addr.block = some q ∧ w.heap.size ≤ q)
theorem PenStep.refl {w : World} {g base most : Nat} {J : List UInt8} {a : Option Addr} {c : Nat} (h : PenAt w g base most J a c) : PenStep w g base most J a w := ⟨a, c, h, Tch.refl _ _, .inl rfl⟩
theorem penF_is {g : Nat} {a : Option Addr} {q : Nat} : PenF g a q ↔ q = g ∨ a.map Addr.block = some q := by unfold PenF; simp
theorem PenStep.trans {w w1 w2 : World} {g base most : Nat} {J J' : List UInt8} {a a1 : Option Addr} (h1 : Tch (PenF g a) w w1) (h2 : a1.map Addr.block = a.map Addr.block ∨ ∃ q, a1.map Addr.block = some q ∧ w.heap.size ≤ q) (k : PenStep w1 g base most J' a1 w2) : PenStep w g base most J' a w2 := by
 obtain ⟨a2, c2, k1, k2, k3⟩ := k
 have hs := h1.size
 refine ⟨a2, c2, k1, h1.trans k2 fun q hq e => ?_, ?_⟩
 ·rw [penF_is] at e ⊢
  rcases e with e | e
  ·exact .inl e
  ·rcases h2 with h2 | ⟨q', h2, h3⟩
   ·exact .inr (h2 ▸ e)
   ·rw [h2] at e; simp at e; omega
 ·rcases k3 with k3 | ⟨q, k3, k4⟩
  ·rcases h2 with h2 | ⟨q', h2, h3⟩
   ·exact .inl (k3.trans h2)
   ·exact .inr ⟨q', k3.trans h2, h3⟩
  ·exact .inr ⟨q, k3, by omega⟩
theorem PenStep.later {w w1 w2 : World} {g base most : Nat} {J' : List UInt8} {a : Option Addr} (h : Below w.heap.size w w1) (k : PenStep w1 g base most J' a w2) : PenStep w g base most J' a w2 := PenStep.trans (J := J') (Tch.of_later h) (.inl rfl) k
theorem PenAt.later {w w1 : World} {g base most : Nat} {J : List UInt8} {a : Option Addr} {c : Nat} (h : PenAt w g base most J a c) (hb : Below w.heap.size w w1) : PenAt w1 g base most J a c :=
 ⟨h.blk.later hb, own_below h.own hb, h.ne, h.lo, h.le, h.most, h.len⟩
theorem PenAt.new (w : World) (most : Nat) (hm : most ≤ 4611686018427387904) : PenAt (w.alloc (.cells #[.int .i64 most, .slice none 0 0, .int .i64 0] 109)) w.heap.size w.heap.size most [] none 0 :=
 ⟨Blk.new w _ _, ⟨rfl, .inl ⟨rfl, rfl⟩⟩, by simp [Value.ownBlock], Nat.le_refl _, Nat.zero_le _, hm, Nat.zero_le _⟩
theorem pen_code (w : World) {g base most : Nat} {J : List UInt8} {a : Option Addr} {c : Nat} (h : PenAt w g base most J a c) :
  Calls Tryz.prog 77 #[.pointer (some ⟨g, 0, none⟩)] w fun r w' => r = .returned (.int .i64 0) ∧ w = w' := by
 have c2 : w.cell? ⟨g, 2, none⟩ = some (.int .i64 0) := h.blk.cell 2
 clear h
 go_enter Tryz.func77, Tryz.ntmps77
 go_wp2
 go_ret
 exact ⟨rfl, rfl⟩
theorem pen_room (w : World) {g base most : Nat} {J : List UInt8} {a : Option Addr} {c : Nat} (h : PenAt w g base most J a c) :
  Calls Tryz.prog 193 #[.pointer (some ⟨g, 0, none⟩)] w fun r w' => r = .returned (.int .i64 ((most : Int) - J.length)) ∧ Below w.heap.size w w' := by
 have C0 := fun s : Later w => s.cell (h.blk.cell 0)
 have C1 := fun s : Later w => s.cell (h.blk.cell 1)
 simp at C0 C1
 have hle := h.le; have hmo := h.most
 clear h
 go_enter Tryz.func193, Tryz.ntmps193
 go_wp2_with fail
 refine wp_region_later (by kernel_rfl) (by kernel_rfl) ?_
 repeat (go_big_quiet_step (fail))
 refine wpQuiet_nil ?_
 rintro W5 ⟨⟨W5', hb5⟩, rfl⟩
 go_wp2
 go_ret
 exact ⟨by first | rfl | simp, hb5⟩
theorem pen_new (w : World) (most : Nat) (hm : most ≤ 4611686018427387904) :
  Calls Tryz.prog 18 #[.int .i64 most] w fun r w' => r = .returned (.pointer (some ⟨w.heap.size, 0, none⟩)) ∧ PenAt w' w.heap.size w.heap.size most [] none 0 ∧ Below w.heap.size w w' := by
 have hN := hid (PenAt.new w most hm)
 have d1 : max (most : Int) 0 = most := by omega
 have d2 : (if (most : Int) < 0 then (0 : Int) else most) = most := by rw [if_neg (by omega)]
 go_enter Tryz.func18, Tryz.ntmps18
 go_wp2
 go_ret
 exact ⟨rfl, hN.out, by (repeat first | exact zR | assumption | apply zA | apply zS | apply zD | apply zN | refine zT (by assumption) ?_ | omega | simp <;> omega)⟩
end Go.Proofs.YtkipiefcnjfdjaaGreat
namespace Go.Proofs.YtkipiefcnjfdjaaGreat
open Go.RowKit Go.Bs Go.Maps
set_option linter.unusedVariables false
set_option linter.unusedSimpArgs false
theorem pen_next {w1 w2 : World} {g base most : Nat} {J D : List UInt8} {a : Option Addr} {c : Nat} {a' : Option Addr} {c' : Nat} (h : PenAt w1 g base most J a c) (hfit : J.length + D.length ≤ most) (hlen : J.length + D.length ≤ 100000000000000)
  (hown : w2.ownsRow base 5 1 (.slice a' (J.length + D.length) c') (J.length + D.length) (byteCells J ++ byteCells D)) (hgrow : w1.grownBy w2 (Value.slice a J.length c).ownBlock)
  (hat : (Value.slice a' (J.length + D.length) c').ownBlock = (Value.slice a J.length c).ownBlock ∨ (Value.slice a' (J.length + D.length) c').ownBlock = some w1.heap.size) :
  PenStep w1 g base most (J ++ D) a (w2.setCell ⟨g, 1, none⟩ (.slice a' (J.length + D.length) c')) := by
 have hg := h.blk.lt
 have hs := hgrow.size
 have hn2 : (Value.slice a' (J.length + D.length) c').ownBlock ≠ some g := fun e => by
  rcases hat with h1 | h1
  ·rw [h1] at e; exact h.ne e
  ·rw [h1] at e; simp at e; omega
 have hsz : (w2.setCell ⟨g, 1, none⟩ (.slice a' (J.length + D.length) c')).heap.size = w2.heap.size := by simp [World.setCell]
 have hll : (J ++ D).length = J.length + D.length := List.length_append
 have hbb : byteCells (J ++ D) = byteCells J ++ byteCells D := by simp [byteCells]
 refine ⟨a', c', ⟨?_, ?_, ?_, h.lo, by omega, h.most, by omega⟩, ?_, ?_⟩
 ·rw [hll]
  exact (h.blk.grown hgrow (fun e => h.ne e.symm)).set 1 _
 ·rw [hll, hbb]
  exact own_keep hown fun q hq => Below.heap_setCell w2 _ _ q (fun e => hn2 (by rw [hq, e]))
 ·rw [hll]; exact hn2
 ·refine ⟨hgrow.os, hgrow.tape, hgrow.output, by rw [hsz]; exact hs, fun q hq hf => ?_⟩
  rw [penF_is] at hf
  exact (Below.heap_setCell w2 _ _ q (fun e => hf (.inl e))).trans (hgrow.block q hq (fun e => hf (.inr (by rw [own_slice] at e; exact e.symm))))
 ·rw [own_slice, own_slice] at hat
  rcases hat with h1 | h1
  ·exact .inl h1
  ·exact .inr ⟨_, h1, Nat.le_refl _⟩
set_option maxRecDepth 100000 in
set_option maxHeartbeats 1600000 in
theorem pen_put (w : World) {g base most : Nat} {J : List UInt8} {a : Option Addr} {c : Nat} (h : PenAt w g base most J a c) (D : List UInt8) (ad : Option Addr) (nd cd : Nat) (hD : rBytes.r (· < w.heap.size) w [.slice ad nd cd] D) (hfit : J.length + D.length ≤ most) (hlen : J.length + D.length ≤ 100000000000000) :
  Calls Tryz.prog 133 #[.pointer (some ⟨g, 0, none⟩), .slice ad nd cd] w fun r w' => r = .returned (.tuple #[]) ∧ PenStep w g base most (J ++ D) a w' := by
 obtain ⟨rfl, hm, _, _⟩ := sl_len hD
 obtain ⟨i0, hi, hz0, hz1, hz2⟩ := info_parts info8
 have HC := hid (pen_code w h)
 have HR := hid (pen_room w h)
 have HP := hid h
 have HD := hid hD
 have HONE := hid (byteCells_one D)
 have hmo := h.most
 have d1 : decide ((most : Int) - (J.length : Int) < (D.length : Int)) = false := by simp; omega
 clear h hD
 go_enter Tryz.func133, Tryz.ntmps133
 go_wp2_with fail
 refine HC.out.mono ?_
 rintro r w0 ⟨rfl, rfl⟩
 go_wp2_with fail
 refine HR.out.mono ?_
 rintro r w1 ⟨rfl, hb1⟩
 have hP1 := HP.out.later hb1
 have c1 : w1.cell? ⟨g, 1, none⟩ = some (.slice a J.length c) := hP1.blk.cell 1
 have hg1 := hP1.blk.lt
 have f1 := hP1.blk.free 1
 have hne := hP1.ne
 have hlo := hP1.lo
 have HP1 := hid hP1
 have HS := hid (src_bytes (lift HD.out hb1))
 clear hP1
 go_wp2_with (at_builtin; go_loud (refine wpList_append_src rfl _ _ _ rfl base 5 i0 (.int .u8 0) 1 1 Tryz.underlying28 hi hz0 hz1 hz2 rfl (by decide) (.slice a J.length c) J.length (byteCells J) rfl HP1.out.own ad D.length cd (byteCells D) rfl HS.out HONE.out (by simp only [maxLen]; omega) (by omega) (by omega) ?_; intro v' w2 hown2 hgrow2 hat2; obtain ⟨a', c', rfl⟩ := own_form hown2; have f2 := (World.frozen?_of_block (a := ⟨g, 1, none⟩) (hgrow2.block g hg1 (fun e => hne e.symm))).trans f1; have e2 := (World.cell?_of_block (a := ⟨g, 1, none⟩) (hgrow2.block g hg1 (fun e => hne e.symm))).trans c1; have hz2' : g < w2.heap.size := Nat.lt_of_lt_of_le hg1 hgrow2.size; have HG := hid hgrow2; have HO := hid hown2; have HAT := hid hat2; clear hgrow2 hown2 hat2))
 have hst := PenStep.later hb1 (pen_next HP1.out hfit hlen HO.out HG.out HAT.out)
 have HST := hid hst
 clear hst
 go_wp2
 go_end0
 exact ⟨rfl, HST.out⟩
set_option maxRecDepth 100000 in
set_option maxHeartbeats 1600000 in
theorem pen_bytes (w : World) {g base most : Nat} {J : List UInt8} {a : Option Addr} {c : Nat} (h : PenAt w g base most J a c) :
  Calls Tryz.prog 20 #[.pointer (some ⟨g, 0, none⟩)] w fun r w' => ∃ v, r = .returned (.tuple #[v, .int .i64 0]) ∧ rBytes.r (fun q => w.heap.size ≤ q ∧ q < w'.heap.size) w' [v] J ∧ Below w.heap.size w w' := by
 obtain ⟨i0, hi, hz0, hz1, hz2⟩ := info_parts info8
 have HC := hid (pen_code w h)
 have hB := own_bytes2 rfl h.own
 obtain ⟨_, hm, _, _⟩ := sl_len hB
 have HD := hid (rBytes.mono hB (S' := (· < w.heap.size)) fun q hq => hq.2)
 have HONE := hid (byteCells_one J)
 have c1 : w.cell? ⟨g, 1, none⟩ = some (.slice a J.length c) := h.blk.cell 1
 have hg1 := h.blk.lt
 have hle := h.le; have hmo := h.most; have hle14 := h.len
 clear h hB
 go_enter Tryz.func20, Tryz.ntmps20
 go_wp2_with fail
 refine HC.out.mono ?_
 rintro r w0 ⟨rfl, rfl⟩
 go_wp2_with (at_builtin; go_loud (refine wpList_append_src rfl _ _ _ rfl w.heap.size 5 i0 (.int .u8 0) 1 1 Tryz.underlying28 hi hz0 hz1 hz2 rfl (by decide) _ 0 [] rfl (own_empty _ (Nat.le_refl _) rfl) a J.length c (byteCells J) rfl (src_bytes (lift HD.out (by (repeat first | exact zR | assumption | apply zA | apply zS | apply zD | apply zN | refine zT (by assumption) ?_ | omega | simp <;> omega)))) HONE.out (by simp only [maxLen]; omega) (by omega) (by simp) ?_; intro v' w1 hown1 hgrow1 hat1; rw [Nat.zero_add, List.nil_append] at hown1; obtain ⟨a', c', rfl⟩ := own_form hown1; have HG := hid hgrow1; have HO := hid hown1; clear hgrow1 hown1 hat1))
 have hA := own_bytes2 rfl HO.out
 have hb1 : Below w.heap.size w w1 := Below.grown (by (repeat first | exact zR | assumption | apply zA | apply zS | apply zD | apply zN | refine zT (by assumption) ?_ | omega | simp <;> omega)) HG.out (by simp) (fun g e => by
  have e' : some w.heap.size = some g := e
  injection e' with e'
  omega)
 have HA := hid hA
 clear hA
 go_ret2
 exact ⟨_, rfl, HA.out, hb1⟩
end Go.Proofs.YtkipiefcnjfdjaaGreat
namespace Go.Proofs.YtkipiefcnjfdjaaGreat
open Go.RowKit Go.Bs Go.Maps
set_option linter.unusedVariables false
set_option linter.unusedSimpArgs false
set_option maxRecDepth 100000 in
theorem varint_put (w : World) {g base most : Nat} {J : List UInt8} {a : Option Addr} {c : Nat} (h : PenAt w g base most J a c) (x : Nat) (hx : x < 18446744073709551616) (hfit : J.length + (varB x).length ≤ most) (hlen : J.length + (varB x).length ≤ 100000000000000) :
  Calls Tryz.prog 73 #[.pointer (some ⟨g, 0, none⟩), .int .u64 x] w fun r w' => r = .returned (.tuple #[]) ∧ PenStep w g base most (J ++ varB x) a w' := by
 have HV := hid (varint_bytes x hx w)
 have HP := hid h
 clear h
 go_enter Tryz.func73, Tryz.ntmps73
 go_wp2_with fail
 refine HV.out.mono ?_
 rintro r w1 ⟨v, rfl, hr, hb1⟩
 obtain ⟨a1, c1, hv, hr2, _⟩ := sl_form hr
 simp only [List.cons.injEq, and_true] at hv
 subst hv
 have HQ := hid (pen_put w1 (HP.out.later hb1) (varB x) a1 _ c1 (rBytes.mono hr2 fun q hq => hq.2) hfit hlen)
 clear hr hr2
 go_wp2_with fail
 refine HQ.out.mono ?_
 rintro r w2 ⟨rfl, hst⟩
 have HST := hid (PenStep.later hb1 hst)
 clear hst
 go_wp2
 first | go_end0 | refine bodyPost_ret (results_none rfl _ _ _) rfl ?_
 exact ⟨rfl, HST.out⟩
def tokB (t : Tok) : List UInt8 := if runB t then varB (2 * t.lit.length - 2) ++ t.lit else varB (2 * t.len.toNat - 7) ++ varB (t.off.toNat - 1)
theorem PenAt.own_lt {w : World} {g base most : Nat} {J : List UInt8} {a : Option Addr} {c : Nat} (h : PenAt w g base most J a c) {q : Nat} (hq : PenF g a q) : base ≤ q ∧ q < w.heap.size := by
 rcases hq with rfl | ⟨p, hp, rfl⟩
 ·exact ⟨h.lo, h.blk.lt⟩
 ·subst hp
  exact h.own.lt _ rfl
end Go.Proofs.YtkipiefcnjfdjaaGreat
namespace Go.Proofs.YtkipiefcnjfdjaaGreat
open Go.RowKit Go.Bs Go.Maps
set_option linter.unusedVariables false
set_option linter.unusedSimpArgs false
def tokensB (xs : List Tok) : List UInt8 := (xs.map tokB).flatten
end Go.Proofs.YtkipiefcnjfdjaaGreat
namespace Go.Proofs.YtkipiefcnjfdjaaGreat
open Go.RowKit Go.Bs Go.Maps
set_option linter.unusedVariables false
set_option linter.unusedSimpArgs false
theorem PenAt.below {w w' : World} {g base most : Nat} {J J' : List UInt8} {a : Option Addr} {c B : Nat} (h : PenAt w g base most J a c) (hB : B ≤ base) (hB2 : B ≤ w.heap.size) (k : PenStep w g base most J' a w') : Below B w w' := by
 obtain ⟨a', c', k1, k2, k3⟩ := k
 exact k2.to_below hB2 fun b _ hb => Nat.le_trans hB (h.own_lt hb).1
end Go.Proofs.YtkipiefcnjfdjaaGreat
namespace Go.Proofs.YtkipiefcnjfdjaaGreat
open Go.RowKit Go.Bs Go.Maps
set_option linter.unusedVariables false
set_option linter.unusedSimpArgs false
theorem byteCells_app (J D : List UInt8) : byteCells J ++ byteCells D = byteCells (J ++ D) := by simp [byteCells]
end Go.Proofs.YtkipiefcnjfdjaaGreat
namespace Go.Bs
open Go.RowKit
end Go.Bs
namespace Go.Proofs.YtkipiefcnjfdjaaGreat
open Go.RowKit Go.Bs Go.Maps
set_option linter.unusedVariables false
set_option linter.unusedSimpArgs false
def rTV : Rp (Tok ⊕ Value) :=
  ⟨fun S w cs x => match x with | .inl t => rTok.r S w cs t | .inr v => cs = [v, .int .i64 0, .int .i64 0],
   fun {S w w' cs x} h hk => by cases x with | inl b => exact rTok.keep h hk | inr y => exact h,
   fun {S S' w cs x} h hk => by cases x with | inl b => exact rTok.mono h hk | inr y => exact h⟩
structure TBld (lo : Nat) (w : World) (g c : Nat) (cells : List (List Value)) (ts : List Tok) (D : List UInt8) (vl : Value) : Prop where
 own : OwnElsF (fun x => lo ≤ x ∧ x < w.heap.size ∧ vl.ownBlock ≠ some x) rTV lo 253 3 w (.slice (some ⟨g, 0, none⟩) (ts.length + 1) c) (ts.map .inl ++ [.inr vl]) (cells ++ [[vl, .int .i64 0, .int .i64 0]])
 len : cells.length = ts.length
 last : w.ownsRow lo 5 1 vl D.length (byteCells D)
 ne : vl.ownBlock ≠ some g
theorem TBld.g_lt {lo : Nat} {w : World} {g c : Nat} {cells : List (List Value)} {ts : List Tok} {D : List UInt8} {vl : Value} (h : TBld lo w g c cells ts D vl) : lo ≤ g ∧ g < w.heap.size := h.own.1.lt g rfl
theorem TBld.grow {lo : Nat} {w w' : World} {g c : Nat} {cells : List (List Value)} {ts : List Tok} {D D' : List UInt8} {vl vl' : Value} (h : TBld lo w g c cells ts D vl)
  (hk : ∀ b, b < w.heap.size → vl.ownBlock ≠ some b → w'.heap[b]? = w.heap[b]?) (hs : w.heap.size ≤ w'.heap.size) (hl : w'.ownsRow lo 5 1 vl' D'.length (byteCells D'))
  (hat : vl'.ownBlock = vl.ownBlock ∨ ∃ q, vl'.ownBlock = some q ∧ w.heap.size ≤ q) :
  TBld lo (w'.setCell ⟨g, ts.length * 3, none⟩ vl') g c cells ts D' vl' := by
 have hgl := h.g_lt
 obtain ⟨ho, h1, h4, h5⟩ := h
 have hsame : (w'.setCell ⟨g, ts.length * 3, none⟩ vl').heap.size = w'.heap.size := by simp [World.setCell]
 have hne' : vl'.ownBlock ≠ some g := fun e => by
  rcases hat with h | ⟨q, h, hq⟩
  ·exact h5 (h ▸ e)
  ·rw [h] at e; have := Option.some.inj e; omega
 have ho' := ho.keep (w' := w') (fun b hb => hk b hb.2.1 hb.2.2) (fun g' hg' => by
  have e : g = g' := by simpa [Value.ownBlock] using hg'
  subst e
  exact hk g hgl.2 h5)
 have h7 := OwnElsF.setLast (x' := (.inr vl' : Tok ⊕ Value)) (j := 0) (u := vl') ho' (by simpa using h1) (by omega) (show _ = _ from rfl)
 rw [Nat.add_zero, List.length_map] at h7
 have h8 : OwnElsF (fun x => lo ≤ x ∧ x < w.heap.size ∧ vl.ownBlock ≠ some x) rTV lo 253 3 (w'.setCell ⟨g, ts.length * 3, none⟩ vl') (.slice (some ⟨g, 0, none⟩) (ts.length + 1) c) (ts.map .inl ++ [.inr vl']) (cells ++ [[vl', .int .i64 0, .int .i64 0]]) := h7
 refine ⟨OwnElsF.mono h8 fun b hb => ⟨hb.1, by rw [hsame]; omega, fun e => ?_⟩, h1, own_keep hl fun q hq => Below.heap_setCell _ _ _ _ (fun e => hne' (by rw [hq]; exact congrArg some e)), hne'⟩
 rcases hat with h | ⟨q, h, hq⟩
 ·exact hb.2.2 (h ▸ e)
 ·rw [h] at e; have := Option.some.inj e; omega
theorem TBld.later {lo : Nat} {w w' : World} {g c : Nat} {cells : List (List Value)} {ts : List Tok} {D : List UInt8} {vl : Value} (h : TBld lo w g c cells ts D vl) (hb : Below w.heap.size w w') : TBld lo w' g c cells ts D vl := by
 have hgl := h.g_lt
 obtain ⟨ho, h1, h4, h5⟩ := h
 refine ⟨(ho.keep (w' := w') (fun b h => hb.block b h.2.1) (fun g' hg' => hb.block g' (ho.1.lt g' hg').2)).mono fun b hb' => ⟨hb'.1, by have := hb.size; omega, hb'.2.2⟩, h1, own_below h4 hb, h5⟩
theorem TBld.place {lo : Nat} {w : World} {g c : Nat} {cells : List (List Value)} {ts : List Tok} {D : List UInt8} {vl : Value} (h : TBld lo w g c cells ts D vl) :
  w.cell? ⟨g, ts.length * 3, none⟩ = some vl ∧ w.cell? ⟨g, ts.length * 3 + 1, none⟩ = some (.int .i64 0) ∧ w.frozen? ⟨g, ts.length * 3, none⟩ = false := by
 obtain ⟨⟨ho, hlen, hsz, hA⟩, h1, _⟩ := h
 rcases ho.2 with ⟨h0, _⟩ | ⟨g', cap, cur, hv, hbg, hg, hn, hc, hcur, hx⟩
 ·cases h0
 ·simp at hv
  obtain ⟨rfl, rfl⟩ := hv
  have hf : ∀ j u, [vl, Value.int .i64 0, .int .i64 0][j]? = some u → cur[ts.length * 3 + j]? = some u := fun j u hu => by
   have hf := flatten_at 3 (cells ++ [[vl, .int .i64 0, .int .i64 0]]) hsz ts.length j [vl, .int .i64 0, .int .i64 0] u (by rw [List.getElem?_append_right (by omega), h1]; simp) hu
   rw [← hx, List.getElem?_take] at hf
   split at hf
   ·simpa using hf
   ·cases hf
  refine ⟨?_, ?_, Blk.free hg _⟩
  ·rw [Blk.cell hg]; exact hf 0 vl rfl
  ·rw [Blk.cell hg]; exact hf 1 _ rfl
end Go.Proofs.YtkipiefcnjfdjaaGreat
namespace Go.Proofs.YtkipiefcnjfdjaaGreat
open Go.RowKit Go.Bs Go.Maps
set_option linter.unusedVariables false
set_option linter.unusedSimpArgs false
def Rest (b : List UInt8) (p i : Nat) (O : List Tok) : Prop := ∃ f, b.length ≤ p + f ∧ toksR b = O ++ toksF b f p i
theorem Rest.none {b : List UInt8} {p i o : Nat} {O : List Tok} (h : Rest b p i O) (hp : p < b.length) (hb : bestR b p = (o, 0)) : Rest b (p + 1) i O := by
 obtain ⟨f, hf, h⟩ := h
 obtain ⟨f, rfl⟩ : ∃ f', f = f' + 1 := ⟨f - 1, by omega⟩
 refine ⟨f, by omega, ?_⟩
 rw [h]
 simp only [toksF, if_pos hp, hb, if_true]
theorem Rest.fin {b : List UInt8} {i : Nat} {O : List Tok} (h : Rest b b.length i O) : toksR b = O ++ litT b i b.length := by
 obtain ⟨f, hf, h⟩ := h
 rw [h]
 cases f with
 | zero => rfl
 | succ f => simp only [toksF, if_neg (Nat.lt_irrefl _)]
end Go.Proofs.YtkipiefcnjfdjaaGreat
namespace Go.Proofs.YtkipiefcnjfdjaaGreat
open Go.RowKit Go.Bs Go.Maps
set_option linter.unusedVariables false
set_option linter.unusedSimpArgs false
def blobB (D : List UInt8) : List UInt8 := varB D.length ++ D
theorem blobB_len (D : List UInt8) : (blobB D).length = (varB D.length).length + D.length := by simp [blobB]
set_option maxRecDepth 100000 in
theorem blob_size (n : Nat) (hn : n ≤ 100000000000000) (w : World) :
  Calls Tryz.prog 129 #[.int .i64 n] w fun r w' => r = .returned (.int .i64 ((varB n).length + n : Nat)) ∧ Below w.heap.size w w' := by
 have HS := hid (fun (W : World) => varint_size n (by omega) W)
 have hl := varB_len n
 generalize (varB n).length = k at *
 go_enter Tryz.func129, Tryz.ntmps129
 go_wp2_with fail
 refine (HS.out _).mono ?_
 rintro r w1 ⟨rfl, hb1⟩
 go_wp2
 go_ret
 exact ⟨by first | rfl | simp, hb1⟩
set_option maxRecDepth 100000 in
theorem blob_put (w : World) {g base most : Nat} {J : List UInt8} {a : Option Addr} {c : Nat} (h : PenAt w g base most J a c) (D : List UInt8) (ad : Option Addr) (nd cd : Nat)
  (hD : rBytes.r (fun q => q < w.heap.size ∧ ¬ PenF g a q) w [.slice ad nd cd] D) (hfit : J.length + (blobB D).length ≤ most) (hlen : J.length + (blobB D).length ≤ 100000000000000) :
  Calls Tryz.prog 137 #[.pointer (some ⟨g, 0, none⟩), .slice ad nd cd] w fun r w' => r = .returned (.tuple #[]) ∧ PenStep w g base most (J ++ blobB D) a w' := by
 obtain ⟨rfl, hm, _, _⟩ := sl_len hD
 rw [blobB_len] at hfit hlen
 have HV := hid (varint_put w h D.length (by omega) (by omega) (by omega))
 have HD := hid hD
 have hfit' := hid hfit; have hlen' := hid hlen
 clear h hD hfit hlen
 go_enter Tryz.func137, Tryz.ntmps137
 go_wp2_with fail
 refine HV.out.mono ?_
 rintro r w2 ⟨rfl, a2, c2, hp2, ht2, ha2⟩
 have hs2 := ht2.size
 have HQ := hid (pen_put w2 hp2 D ad _ cd (rBytes.mono (rBytes.keep HD.out fun q hq => ht2.block q hq.1 hq.2) fun q hq => Nat.lt_of_lt_of_le hq.1 hs2) (by rw [List.length_append]; have := hfit'.out; omega) (by rw [List.length_append]; have := hlen'.out; omega))
 go_wp2_with fail
 refine HQ.out.mono ?_
 rintro r w3 ⟨rfl, hst⟩
 have hst2 := PenStep.trans (J := J) ht2 ha2 hst
 rw [List.append_assoc] at hst2
 have HST := hid hst2
 clear hst hst2
 go_wp2
 first | go_end0 | refine bodyPost_ret (results_none rfl _ _ _) rfl ?_
 exact ⟨rfl, HST.out⟩
end Go.Proofs.YtkipiefcnjfdjaaGreat
namespace Go.Proofs.YtkipiefcnjfdjaaGreat
open Go.RowKit Go.Bs Go.Maps
set_option linter.unusedVariables false
set_option linter.unusedSimpArgs false
def pressB (p : List UInt8) : List UInt8 := tokensB (toksR p)
def packR (p : List UInt8) : Bool := decide ((blobB (pressB p)).length < p.length)
def blockB (p : List UInt8) : List UInt8 := varB p.length ++ (if packR p then 1 :: blobB (pressB p) else 0 :: p)
end Go.Proofs.YtkipiefcnjfdjaaGreat
namespace Go.Proofs.YtkipiefcnjfdjaaGreat
open Go.RowKit Go.Bs Go.Maps
set_option linter.unusedVariables false
set_option linter.unusedSimpArgs false
theorem lit_one (w : World) (y : UInt8) : rBytes.r (· < (w.alloc (.cells #[.int .u8 (y.toNat : Int)] 5)).heap.size) (w.alloc (.cells #[.int .u8 (y.toNat : Int)] 5)) [.slice (some ⟨w.heap.size, 0, none⟩) 1 1] [y] :=
 own_bytes (l := [y]) rfl (own_new1 (base := 0) (Nat.zero_le _) (World.alloc_heap_new w _))
end Go.Proofs.YtkipiefcnjfdjaaGreat
namespace Go.Proofs.YtkipiefcnjfdjaaGreat
open Go.RowKit Go.Bs Go.Maps
set_option linter.unusedVariables false
set_option linter.unusedSimpArgs false
def numsB (l : List Int) : List UInt8 := (l.map fun x => varB x.toNat).flatten
def deltaB (pos : Int) (l : List Int) : List UInt8 := varB l.length ++ numsB (stepsL pos l)
def lnkF (pos : Int) : Option Int → List Link → List UInt8
 | _, [] => []
 | p, x :: l => varB (match p with | none => x.stream | some q => x.stream - q - 1).toNat ++ deltaB pos x.backs ++ lnkF pos (some x.stream) l
def linksB (pos : Int) (l : List Link) : List UInt8 := varB l.length ++ lnkF pos none l
def headB (pos : Int) (e : Entry) : List UInt8 := linksB pos e.links ++ varB e.data.length
def headsB : Int → List Entry → List UInt8
 | _, [] => []
 | p, e :: l => headB p e ++ headsB (p + 1) l
def aheadB (b : Batch) : List UInt8 := varB b.epoch.toNat ++ varB b.base.toNat ++ varB b.entries.length ++ headsB b.base b.entries
def batchB (b : Batch) : List UInt8 := aheadB b ++ blockB (joined b.entries)
def linkN (x : Link) : Prop := (0 ≤ x.stream ∧ x.stream ≤ 18446744073709551615) ∧ ∀ y ∈ x.backs, 0 ≤ y
def entryN (e : Entry) : Prop := ∀ x ∈ e.links, linkN x
def batchN (b : Batch) : Prop := (0 ≤ b.epoch ∧ b.epoch ≤ 18446744073709551615) ∧ (0 ≤ b.base ∧ b.base ≤ 18446744073709551615) ∧ ∀ e ∈ b.entries, entryN e
theorem numsB_nil : numsB [] = [] := rfl
theorem numsB_cons (x : Int) (l : List Int) : numsB (x :: l) = varB x.toNat ++ numsB l := by simp [numsB]
theorem numsB_app (l l' : List Int) : numsB (l ++ l') = numsB l ++ numsB l' := by simp [numsB]
theorem numsB_step (l : List Int) (k : Nat) (h : k < l.length) : numsB (l.take (k + 1)) = numsB (l.take k) ++ varB l[k].toNat := by
 rw [List.take_succ_eq_append_getElem h, numsB_app, numsB_cons, numsB_nil, List.append_nil]
theorem numsB_len (l : List Int) : (numsB l).length ≤ 10 * l.length := by
 induction l with
 | nil => simp [numsB]
 | cons x l ih =>
  rw [numsB_cons, List.length_append, List.length_cons]
  have := (varB_len x.toNat).1
  omega
theorem stepsL_len : ∀ (p : Int) (l : List Int), (stepsL p l).length = l.length
 | _, [] => rfl
 | p, x :: l => by simp only [stepsL, List.length_cons, stepsL_len x l]
theorem varB_len_small {x : Nat} (h : x < 128) : (varB x).length = 1 := by rw [varB_small h]; rfl
theorem deltaB_len (pos : Int) (l : List Int) (h : l.length < 128) : (deltaB pos l).length ≤ 1 + 10 * l.length := by
 have := numsB_len (stepsL pos l)
 rw [stepsL_len] at this
 unfold deltaB
 rw [List.length_append, varB_len_small h]
 omega
end Go.Proofs.YtkipiefcnjfdjaaGreat
namespace Go.Proofs.YtkipiefcnjfdjaaGreat
open Go.RowKit Go.Bs Go.Maps
set_option linter.unusedVariables false
set_option linter.unusedSimpArgs false
structure Rs where
 p : Nat
 k : Int
 f : Int
def Rs.fail (s : Rs) (c at_ : Int) : Rs := if s.k = 0 then ⟨s.p, c, at_⟩ else s
def Rs.skip (L : Nat) (s : Rs) (n : Int) : Bool × Rs :=
 if s.k = 0 then (if n < 0 then (false, ⟨s.p, 17, s.p⟩) else if (L : Int) - s.p < n then (false, ⟨s.p, 1, L⟩) else (true, ⟨s.p + n.toNat, 0, 0⟩)) else (false, s)
def Rs.take (B : List UInt8) (s : Rs) (n : Int) : Rs × List UInt8 := ((s.skip B.length n).2, if (s.skip B.length n).1 then (B.drop s.p).take n.toNat else [])
def Rs.byte (B : List UInt8) (s : Rs) : Rs × UInt8 := ((s.skip B.length 1).2, if (s.skip B.length 1).1 then B.getD s.p 0 else 0)
structure Rs.ok (s : Rs) (L : Nat) : Prop where
 le : s.p ≤ L
 zero : s.k = 0 → s.f = 0
structure RdAt (w : World) (g : Nat) (B : List UInt8) (a : Option Addr) (s : Rs) : Prop where
 blk : Blk w g 124 #[.slice a B.length B.length, .int .i64 (s.p : Int), .int .i64 s.k, .int .i64 s.f]
 dat : rBytes.r (fun q => q < w.heap.size ∧ q ≠ g) w [.slice a B.length B.length] B
 ok : s.ok B.length
def RdStep (w : World) (g : Nat) (B : List UInt8) (a : Option Addr) (s' : Rs) (w' : World) : Prop := RdAt w' g B a s' ∧ Tch (· = g) w w'
section
variable {w w1 w2 : World} {g : Nat} {B : List UInt8} {a : Option Addr} {s s' : Rs}
theorem RdAt.later (h : RdAt w g B a s) (hb : Below w.heap.size w w1) : RdAt w1 g B a s :=
 ⟨h.blk.later hb, rBytes.mono (rBytes.keep h.dat fun q hq => hb.block q hq.1) fun q hq => ⟨Nat.lt_of_lt_of_le hq.1 hb.size, hq.2⟩, h.ok⟩
theorem RdAt.len (h : RdAt w g B a s) : B.length ≤ 9223372036854775807 := (sl_len h.dat).2.1
theorem RdStep.later (h : RdAt w g B a s) (hb : Below w.heap.size w w1) : RdStep w g B a s w1 := ⟨h.later hb, Tch.of_later hb⟩
theorem RdStep.refl (h : RdAt w g B a s) : RdStep w g B a s w := ⟨h, Tch.refl _ _⟩
theorem RdStep.trans (h : Tch (· = g) w w1) (k : RdStep w1 g B a s' w2) : RdStep w g B a s' w2 := ⟨k.1, h.trans k.2 fun _ _ h => h⟩
theorem RdStep.then (h : RdStep w g B a s w1) (hb : Below w1.heap.size w1 w2) : RdStep w g B a s w2 := ⟨h.1.later hb, h.2.trans (Tch.of_later (F := (· = g)) hb) fun _ _ h => h⟩
theorem RdStep.size (h : RdStep w g B a s w1) : w.heap.size ≤ w1.heap.size := h.2.size
theorem RdStep.below {b : Nat} (h : RdStep w g B a s w1) (hb : b ≤ w.heap.size) (hg : b ≤ g) : Below b w w1 := h.2.to_below hb fun q _ e => e ▸ hg
end
end Go.Proofs.YtkipiefcnjfdjaaGreat
namespace Go.Proofs.YtkipiefcnjfdjaaGreat
open Go.RowKit Go.Bs Go.Maps
set_option linter.unusedVariables false
set_option linter.unusedSimpArgs false
def vget : Nat → Nat → List UInt8 → Nat × Nat × Int
 | i, x, [] => (0, i, 1)
 | i, x, c :: l =>
  if i = 9 ∧ 1 < c.toNat then (0, i + 1, 5)
  else if 0 < i ∧ c.toNat = 0 then (0, i + 1, 4)
  else if c.toNat < 128 then (x + c.toNat * 128 ^ i, i + 1, 0)
  else vget (i + 1) (x + c.toNat % 128 * 128 ^ i) l
def Rs.num (B : List UInt8) (s : Rs) : Rs × Nat :=
 if s.k = 0 then
  let r := vget 0 0 (B.drop s.p)
  (⟨s.p + r.2.1, r.2.2, if r.2.2 = 0 then 0 else if r.2.2 = 1 then B.length else s.p + r.2.1 - 1⟩, r.1)
 else (s, 0)
end Go.Proofs.YtkipiefcnjfdjaaGreat
namespace Go.Proofs.YtkipiefcnjfdjaaGreat
open Go.RowKit Go.Bs Go.Maps
set_option linter.unusedVariables false
set_option linter.unusedSimpArgs false
def Rs.most (B : List UInt8) (s : Rs) (m : Nat) : Rs × Nat := if m < (s.num B).2 then ((s.num B).1.fail 2 s.p, 0) else s.num B
def Rs.int (B : List UInt8) (s : Rs) (m : Int) : Rs × Nat := if 0 ≤ m then s.most B m.toNat else ((s.num B).1.fail 2 s.p, 0)
def Rs.head (B : List UInt8) (s : Rs) : Rs × Bool × Nat :=
 if (s.num B).1.k = 0 then
  (if (s.num B).2 % 2 = 1 then (if 1048572 < (s.num B).2 / 2 then ((s.num B).1.fail 2 s.p, false, 0) else ((s.num B).1, true, (s.num B).2 / 2 + 4))
  else (if 1048575 < (s.num B).2 / 2 then ((s.num B).1.fail 2 s.p, false, 0) else ((s.num B).1, false, (s.num B).2 / 2 + 1)))
 else ((s.num B).1, false, 0)
def Rs.offset (B : List UInt8) (s : Rs) : Rs × Nat :=
 let t := if 65536 ≤ (s.num B).2 then (s.num B).1.fail 10 s.p else (s.num B).1
 (t, if t.k = 0 then (s.num B).2 + 1 else 0)
end Go.Proofs.YtkipiefcnjfdjaaGreat
namespace Go.Proofs.YtkipiefcnjfdjaaGreat
open Go.RowKit Go.Bs Go.Maps
set_option linter.unusedVariables false
set_option linter.unusedSimpArgs false
theorem byteCells_snoc (l : List UInt8) (x : UInt8) : byteCells l ++ [Value.int .u8 (x.toNat : Int)] = byteCells (l ++ [x]) := by simp [byteCells]
end Go.Proofs.YtkipiefcnjfdjaaGreat
namespace Go.Proofs.YtkipiefcnjfdjaaGreat
open Go.RowKit Go.Bs Go.Maps
set_option linter.unusedVariables false
set_option linter.unusedSimpArgs false
structure XInv (w W : World) (B : List UInt8) (a : Option Addr) (s : Rs) (out : List UInt8) (aO : Option Addr) (cO : Nat) : Prop where
 rd : RdAt W (w.heap.size + 1) B a s
 dat : rBytes.r (· < w.heap.size) W [.slice a B.length B.length] B
 fl : Blk W w.heap.size 48 #[.int .i64 0, .int .i64 0]
 own : W.ownsRow (w.heap.size + 2) 5 1 (.slice aO out.length cO) out.length (byteCells out)
 be : Below w.heap.size w W
 sz : w.heap.size + 2 ≤ W.heap.size
section
variable {w W W' : World} {B : List UInt8} {a : Option Addr} {s s' : Rs} {out out' : List UInt8} {aO aO' : Option Addr} {cO cO' : Nat}
theorem XInv.later (h : XInv w W B a s out aO cO) (hb : Below W.heap.size W W') : XInv w W' B a s out aO cO :=
 ⟨h.rd.later hb, rBytes.keep h.dat fun q hq => hb.block q (by have := h.sz; omega), h.fl.later hb, own_below h.own hb, below_then hb h.be, Nat.le_trans h.sz hb.size⟩
theorem XInv.row (h : XInv w W B a s out aO cO) (hb : Below (w.heap.size + 2) W W') (ho : W'.ownsRow (w.heap.size + 2) 5 1 (.slice aO' out'.length cO') out'.length (byteCells out')) : XInv w W' B a s out' aO' cO' := by
 have hd := rBytes.keep h.dat (w' := W') fun q hq => hb.block q (by omega)
 exact ⟨⟨h.rd.blk.below hb (by omega), rBytes.mono hd fun q hq => ⟨by have := h.sz; have := hb.size; omega, by omega⟩, h.rd.ok⟩, hd, h.fl.below hb (by omega), ho, h.be.trans (hb.mono (by omega)), Nat.le_trans h.sz hb.size⟩
end
def cellI (W : World) (g i : Nat) : Int := intOf ((W.cell? ⟨g, i, none⟩).getD undef)
theorem RdAt.cells {w : World} {g : Nat} {B : List UInt8} {a : Option Addr} {s : Rs} (h : RdAt w g B a s) : cellI w g 1 = s.p ∧ cellI w g 2 = s.k := by
 have c1 := h.blk.cell 1
 have c2 := h.blk.cell 2
 simp at c1 c2
 unfold cellI
 rw [c1, c2]
 exact ⟨rfl, rfl⟩
end Go.Proofs.YtkipiefcnjfdjaaGreat
namespace Go.Proofs.YtkipiefcnjfdjaaGreat
open Go.RowKit Go.Bs Go.Maps
set_option linter.unusedVariables false
set_option linter.unusedSimpArgs false
theorem blockB_len (p : List UInt8) : (blockB p).length ≤ (varB p.length).length + p.length + 1 := by
 unfold blockB
 by_cases h : packR p = true
 ·have h2 := h
  unfold packR at h2
  have h3 := of_decide_eq_true h2
  rw [if_pos h]
  simp; omega
 ·rw [if_neg h]
  simp; omega
end Go.Proofs.YtkipiefcnjfdjaaGreat
namespace Go.Proofs.YtkipiefcnjfdjaaGreat
open Go.RowKit Go.Bs Go.Maps
set_option linter.unusedVariables false
set_option linter.unusedSimpArgs false
def Rs.falls (B : List UInt8) : Nat → Rs → Int → List Int → Rs × List Int
 | 0, s, _, out => (s, out)
 | n + 1, s, below, out =>
  if (s.num B).1.k = 0 then
   (if below ≤ ((s.num B).2 : Int) then ((s.num B).1.fail 13 s.p, []) else Rs.falls B n (s.num B).1 (below - (s.num B).2 - 1) (out ++ [below - (s.num B).2 - 1]))
  else ((s.num B).1, [])
def Rs.delta (B : List UInt8) (s : Rs) (below : Int) (most : Int) : Rs × List Int := Rs.falls B (s.int B most).2 (s.int B most).1 below []
def Rs.stream (B : List UInt8) (s : Rs) (prev : Option Int) : Rs × Int :=
 match prev with
 | none => ((s.num B).1, ((s.num B).2 : Int))
 | some q => (if 18446744073709551615 - q ≤ ((s.num B).2 : Int) then (s.num B).1.fail 13 s.p else (s.num B).1, ((s.num B).2 : Int) + q + 1)
def Rs.linksF (B : List UInt8) (pos : Int) : Nat → Rs → Option Int → List Link → Rs × List Link
 | 0, s, _, out => (s, out)
 | n + 1, s, prev, out =>
  if ((s.stream B prev).1.delta B pos 4).1.k = 0 then Rs.linksF B pos n ((s.stream B prev).1.delta B pos 4).1 (some (s.stream B prev).2) (out ++ [⟨(s.stream B prev).2, ((s.stream B prev).1.delta B pos 4).2⟩])
  else (((s.stream B prev).1.delta B pos 4).1, [])
def Rs.links (B : List UInt8) (s : Rs) (pos : Int) : Rs × List Link := Rs.linksF B pos (s.int B 16).2 (s.int B 16).1 none []
def Rs.ehead (B : List UInt8) (s : Rs) (pos most : Int) : Rs × List Link × Nat :=
 if ((s.links B pos).1.int B most).1.k = 0 then (((s.links B pos).1.int B most).1, (s.links B pos).2, ((s.links B pos).1.int B most).2) else (((s.links B pos).1.int B most).1, [], 0)
def Rs.heads (B : List UInt8) : Nat → Rs → Int → Int → List (List Link × Nat) → Rs × List (List Link × Nat)
 | 0, s, _, _, out => (s, out)
 | n + 1, s, pos, left, out =>
  if (s.ehead B pos left).1.k = 0 then Rs.heads B n (s.ehead B pos left).1 (pos + 1) (left - (s.ehead B pos left).2.2) (out ++ [(s.ehead B pos left).2]) else ((s.ehead B pos left).1, [])
def sizesN (l : List (List Link × Nat)) : Nat := (l.map Prod.snd).sum
def dealE : List (List Link × Nat) → List UInt8 → List Entry
 | [], _ => []
 | (l, n) :: r, D => ⟨l, D.take n⟩ :: dealE r (D.drop n)
def Rs.ep (B : List UInt8) (s : Rs) : Rs × Nat := if (s.num B).1.k = 0 then (if epR ((s.num B).2 : Int) = true then s.num B else ((s.num B).1.fail 3 s.p, 0)) else ((s.num B).1, 0)
def Rs.po (B : List UInt8) (s : Rs) : Rs × Nat := if (s.num B).1.k = 0 then (if poR ((s.num B).2 : Int) = true then s.num B else ((s.num B).1.fail 3 s.p, 0)) else ((s.num B).1, 0)
def Rs.bfront (B : List UInt8) (s : Rs) : Rs × Nat × Nat × Nat :=
 ((if fitsR (((s.ep B).1.po B).2 : Int) (((s.ep B).1.po B).1.int B 16).2 = true then (((s.ep B).1.po B).1.int B 16).1 else (((s.ep B).1.po B).1.int B 16).1.fail 3 ((s.ep B).1.po B).1.p), (s.ep B).2, ((s.ep B).1.po B).2, (((s.ep B).1.po B).1.int B 16).2)
def Rs.bblock (blk : Rs → Rs × List UInt8 × Bool) (h : Rs × List (List Link × Nat)) : Rs × List Entry × Bool :=
 let p := blk h.1
 let u : Rs := if sizesN h.2 = p.2.1.length then p.1 else p.1.fail 3 h.1.p
 (u, dealE h.2 p.2.1, p.2.2)
def noBatch : Batch := ⟨0, 0, []⟩
def Rs.batch (B : List UInt8) (blk : Rs → Rs × List UInt8 × Bool) (s : Rs) : Rs × Batch × Bool :=
 let f := s.bfront B
 if f.1.k = 0 then
  let u := Rs.bblock blk (Rs.heads B f.2.2.2 f.1 (f.2.2.1 : Int) 1048576 [])
  if u.1.k = 0 then (u.1, ⟨(f.2.1 : Int), (f.2.2.1 : Int), u.2.1⟩, u.2.2) else (u.1, noBatch, false)
 else (f.1, noBatch, false)
end Go.Proofs.YtkipiefcnjfdjaaGreat
namespace Go.Proofs.YtkipiefcnjfdjaaGreat
open Go.RowKit Go.Bs Go.Maps
set_option linter.unusedVariables false
set_option linter.unusedSimpArgs false
theorem linkZ_len_le (pos : Int) (l : List Link) (hR : linksR pos l = true) : (lnkF pos none l).length ≤ 51 * l.length := by
 have key : ∀ (l : List Link) (p : Option Int), (∀ x ∈ l, linkR pos x = true) → (lnkF pos p l).length ≤ 51 * l.length := by
  intro l
  induction l with
  | nil => intro p _; simp [lnkF]
  | cons x l ih =>
   intro p hx
   have h1 := hx x (by simp)
   simp only [linkR, Bool.and_eq_true, decide_eq_true_eq] at h1
   have h2 := ih (some x.stream) (fun y hy => hx y (by simp [hy]))
   have h3 := deltaB_len pos x.backs (by omega)
   cases p with
   | none =>
    have h4 := (varB_len x.stream.toNat).1
    simp only [lnkF, List.length_append, List.length_cons]
    omega
   | some q =>
    have h4 := (varB_len (x.stream - q - 1).toNat).1
    simp only [lnkF, List.length_append, List.length_cons]
    omega
 simp only [linksR, Bool.and_eq_true, decide_eq_true_eq, List.all_eq_true] at hR
 exact key l none hR.2.2
end Go.Proofs.YtkipiefcnjfdjaaGreat
namespace Go.Proofs.YtkipiefcnjfdjaaGreat
open Go.RowKit Go.Bs Go.Maps
set_option linter.unusedVariables false
set_option linter.unusedSimpArgs false
def headN (pos : Int) (e : Entry) : Nat := if entryR pos e = true then (headB pos e).length else 0
theorem headN_le (pos : Int) (e : Entry) : headN pos e ≤ 1000 := by
 unfold headN
 split
 ·rename_i h
  simp only [entryR, Bool.and_eq_true] at h
  have h1 := linkZ_len_le pos e.links h.1
  have h2 := h.1
  simp only [linksR, Bool.and_eq_true, decide_eq_true_eq] at h2
  have h3 := (varB_len e.links.length).1
  have h4 := (varB_len e.data.length).1
  simp only [headB, linksB, List.length_append]
  omega
 ·omega
theorem epoch_put0 (w : World) {g base most : Nat} {J : List UInt8} {a : Option Addr} {c : Nat} (h : PenAt w g base most J a c) (x : Nat) (hx : x < 18446744073709551616) (hfit : J.length + (varB x).length ≤ most) (hlen : J.length + (varB x).length ≤ 100000000000000) :
  Calls Tryz.prog 131 #[.pointer (some ⟨g, 0, none⟩), .int .u64 x, .bool true] w fun r w' => r = .returned (.tuple #[]) ∧ PenStep w g base most (J ++ varB x) a w' := by
 have HV := hid (varint_put w h x hx hfit hlen)
 clear h
 go_enter Tryz.func131, Tryz.ntmps131
 go_wp2_with fail
 refine HV.out.mono ?_
 rintro r w1 ⟨rfl, hst⟩
 have HST := hid hst
 clear hst
 go_wp2
 first | go_end0 | refine bodyPost_ret (results_none rfl _ _ _) rfl ?_
 exact ⟨rfl, HST.out⟩
theorem epoch_put (w : World) {g base most : Nat} {J : List UInt8} {a : Option Addr} {c : Nat} (h : PenAt w g base most J a c) (x : Nat) (hx : epR (x : Int) = true) (hfit : J.length + (varB x).length ≤ most) (hlen : J.length + (varB x).length ≤ 100000000000000) :
  Calls Tryz.prog 71 #[.pointer (some ⟨g, 0, none⟩), .int .u64 x] w fun r w' => r = .returned (.tuple #[]) ∧ PenStep w g base most (J ++ varB x) a w' := by
 have hx' := hx
 simp only [epR, decide_eq_true_eq] at hx'
 have HR := hid (epoch_right (x : Int) w)
 rw [hx] at HR
 have HV := hid (epoch_put0 w h x (by omega) hfit hlen)
 clear h hx hx'
 go_enter Tryz.func71, Tryz.ntmps71
 go_wp2_with fail
 refine HR.out.mono ?_
 rintro r w1 ⟨rfl, rfl⟩
 go_wp2_with fail
 refine HV.out.mono ?_
 rintro r w1 ⟨rfl, hst⟩
 have HST := hid hst
 clear hst
 go_wp2
 first | go_end0 | refine bodyPost_ret (results_none rfl _ _ _) rfl ?_
 exact ⟨rfl, HST.out⟩
theorem epoch_putpos (w : World) {g base most : Nat} {J : List UInt8} {a : Option Addr} {c : Nat} (h : PenAt w g base most J a c) (x : Nat) (hx : poR (x : Int) = true) (hfit : J.length + (varB x).length ≤ most) (hlen : J.length + (varB x).length ≤ 100000000000000) :
  Calls Tryz.prog 72 #[.pointer (some ⟨g, 0, none⟩), .int .u64 x] w fun r w' => r = .returned (.tuple #[]) ∧ PenStep w g base most (J ++ varB x) a w' := by
 have hx' := hx
 simp only [poR, decide_eq_true_eq] at hx'
 have HR := hid (epoch_pos (x : Int) w)
 rw [hx] at HR
 have HV := hid (epoch_put0 w h x (by omega) hfit hlen)
 clear h hx hx'
 go_enter Tryz.func72, Tryz.ntmps72
 go_wp2_with fail
 refine HR.out.mono ?_
 rintro r w1 ⟨rfl, rfl⟩
 go_wp2_with fail
 refine HV.out.mono ?_
 rintro r w1 ⟨rfl, hst⟩
 have HST := hid hst
 clear hst
 go_wp2
 first | go_end0 | refine bodyPost_ret (results_none rfl _ _ _) rfl ?_
 exact ⟨rfl, HST.out⟩
end Go.Proofs.YtkipiefcnjfdjaaGreat
namespace Go.Proofs.YtkipiefcnjfdjaaGreat
open Go.RowKit Go.Bs Go.Maps
set_option linter.unusedVariables false
set_option linter.unusedSimpArgs false
structure RdInv (w W : World) (g : Nat) (B : List UInt8) (a : Option Addr) (s : Rs) : Prop where
 rd : RdAt W g B a s
 dat : rBytes.r (fun q => q < w.heap.size ∧ q ≠ g) W [.slice a B.length B.length] B
 tch : Tch (· = g) w W
 lt : g < w.heap.size
section
variable {w W W' : World} {g : Nat} {B : List UInt8} {a : Option Addr} {s s' : Rs}
theorem RdInv.refl (h : RdAt w g B a s) : RdInv w w g B a s := ⟨h, h.dat, Tch.refl _ _, h.blk.lt⟩
theorem RdInv.row (h : RdInv w W g B a s) (hb : Below w.heap.size W W') : RdInv w W' g B a s := by
 have hd := rBytes.keep h.dat (w' := W') fun q hq => hb.block q hq.1
 have hs := h.tch.size
 have hs2 := hb.size
 exact ⟨⟨h.rd.blk.below hb h.lt, rBytes.mono hd fun q hq => ⟨by omega, hq.2⟩, h.rd.ok⟩, hd, h.tch.trans (Tch.of_below hb) (fun b hb hle => by omega), h.lt⟩
theorem RdInv.to (h : RdInv w W g B a s) : RdStep w g B a s W := ⟨h.rd, h.tch⟩
end
end Go.Proofs.YtkipiefcnjfdjaaGreat
namespace Go.Proofs.YtkipiefcnjfdjaaGreat
open Go.RowKit Go.Bs Go.Maps
set_option linter.unusedVariables false
set_option linter.unusedSimpArgs false
theorem OwnEls.form {w : World} {α : Type} {lo base : Nat} {A : Rp α} {e : TypeId} {sz : Nat} {v : Value} {xs : List α} (h : OwnEls lo A base e sz w v xs) : ∃ a c, v = .slice a xs.length c := by
 obtain ⟨cells, h1, _⟩ := h
 exact own_form h1
end Go.Proofs.YtkipiefcnjfdjaaGreat
namespace Go.Proofs.YtkipiefcnjfdjaaGreat
open Go.RowKit Go.Bs
set_option linter.unusedVariables false
set_option linter.unusedSimpArgs false
theorem OwnEls.stay {w w' : World} {α : Type} {lo base : Nat} {A : Rp α} {e : TypeId} {sz : Nat} {v : Value} {xs : List α} (h : OwnEls lo A base e sz w v xs) (hk : ∀ b, min lo base ≤ b → b < w.heap.size → w'.heap[b]? = w.heap[b]?) (hs : w.heap.size ≤ w'.heap.size) : OwnEls lo A base e sz w' v xs := by
 obtain ⟨cells, ho, hlen, hsz, hA⟩ := h
 refine ⟨cells, ⟨ho.1, ?_⟩, hlen, hsz, fun i cs x hi hx => A.mono (A.keep (hA i cs x hi hx) fun b h => hk b (by have := h.1; omega) h.2.1) fun b h => ⟨h.1, Nat.lt_of_lt_of_le h.2.1 hs, h.2.2⟩⟩
 rcases ho.2 with h0 | ⟨g', cap, cur, h1, h2, h3, h4⟩
 ·exact .inl h0
 ·exact .inr ⟨g', cap, cur, h1, h2, (hk _ (by omega) (Blk.lt h3)).trans h3, h4⟩
theorem OwnEls.low {w : World} {α : Type} {lo lo' base base' : Nat} {A : Rp α} {e : TypeId} {sz : Nat} {v : Value} {xs : List α} (h : OwnEls lo A base e sz w v xs) (hl : lo' ≤ lo) (hb : base' ≤ base) : OwnEls lo' A base' e sz w v xs := by
 obtain ⟨cells, ho, hlen, hsz, hA⟩ := h
 refine ⟨cells, ⟨ho.1, ?_⟩, hlen, hsz, fun i cs x hi hx => A.mono (hA i cs x hi hx) fun b h => ⟨by have := h.1; omega, h.2⟩⟩
 rcases ho.2 with h0 | ⟨g', cap, cur, h1, h2, h3⟩
 ·exact .inl h0
 ·exact .inr ⟨g', cap, cur, h1, by omega, h3⟩
set_option maxHeartbeats 1600000 in
theorem segment_copyO (ep : Int) (l : List Batch) (a : Option Addr) (n c : Nat) (w : World) (hl : rBatches.r (· < w.heap.size) w [.slice a n c] l) (hlen : l.length ≤ 1000000000000) (hb : ∀ z ∈ l, MildB z) :
  Calls Tryz.prog 60 #[.agg #[.int .u64 ep, .slice a n c]] w fun r w' => ∃ v, r = .returned (.agg #[.int .u64 ep, v]) ∧ OwnEls w.heap.size rBatch w.heap.size 25 3 w' v l ∧ Below w.heap.size w w' := by
 obtain ⟨rfl, hm, _, _⟩ := sl_len hl
 obtain ⟨i0, hi, hz0, hz1, hz2⟩ := info_parts infoBatch
 have HL := hid hl; clear hl
 have HB := hid hb; clear hb
 go_enter Tryz.func60, Tryz.ntmps60
 go_wp2_with fail
 refine wp_world (fun W => Below w.heap.size w W ∧ W.heap.size = w.heap.size + 2 ∧ Blk W w.heap.size 62 #[.int .u64 ep, .slice a l.length c] ∧ Blk W (w.heap.size + 1) 62 #[.int .u64 0, .slice none 0 0]) ⟨by (repeat first | exact zR | assumption | apply zA | apply zS | apply zD | apply zN | refine zT (by assumption) ?_ | omega | simp <;> omega), by simp, (Blk.new w _ _).alloc _, Blk.new1 w _ _ _⟩ ?_
 intro W ⟨hbW, hzW, q0, q1⟩
 have LT0 : w.heap.size < W.heap.size := by omega
 have LT1 : w.heap.size + 1 < W.heap.size := by omega
 have Q0 := hid q0; have Q1 := hid q1; clear q0 q1
 have HW := hid hzW; clear hzW
 go_loopw [3, 9] (fun v i wr => ∃ k : Nat, k ≤ l.length ∧ i = .int .i64 k ∧ OwnEls W.heap.size rBatch W.heap.size 25 3 wr v (l.take k) ∧ Below W.heap.size W wr) (fun _ i _ => l.length - (intOf i).toNat)
 case atStart => exact ⟨0, Nat.zero_le _, rfl, OwnEls.nil, Below.refl _ _⟩
 case round =>
  obtain ⟨k, hk, rfl, hown, hb⟩ := hrel
  have hbw := below_then hb hbW
  by_cases hlt : k < l.length
  ·obtain ⟨b, o, hA, hbb, a1, c1, hc0, hc1, hc2, g0, g1, hd1⟩ := batch_at HL.out hlt
   subst hA
   have X0 := (hbw.cell (p := ⟨b, o + k * 3, none⟩) hbb).trans hc0
   have X1 := (hbw.cell (p := ⟨b, o + k * 3 + 1, none⟩) hbb).trans hc1
   have X2 := (hbw.cell (p := ⟨b, o + k * 3 + 2, none⟩) hbb).trans hc2
   clear hc0 hc1 hc2
   have htk := hid (List.take_succ_eq_append_getElem hlt)
   obtain ⟨m1, m3⟩ := HB.out _ (List.getElem_mem hlt)
   have R1 := hid (lift hd1 hbw)
   clear hd1
   generalize l[k] = z at *
   have M3 := hid m3; clear m3
   have htl : (l.take k).length = k := by simp; omega
   generalize hT : l.take k = T at *
   clear hT
   subst htl
   have OW := hid hown; clear hown
   have i1 : (T.length : Int) < (l.length : Int) := by omega
   go_wp2_with fail
   refine (batch_copy z _ _ _ _ (lift R1.out (by (repeat first | exact zR | assumption | apply zA | apply zS | apply zD | apply zN | refine zT (by assumption) ?_ | omega | simp <;> omega))) m1 M3.out).mono ?_
   rintro e w4 ⟨v1, rfl, hr4, hb4⟩
   have hbw4 : Below wr.heap.size wr w4 := by (repeat first | exact zR | assumption | apply zA | apply zS | apply zD | apply zN | refine zT (by assumption) ?_ | omega | simp <;> omega)
   have hz4 : wr.heap.size + 1 ≤ w4.heap.size := by have := hb4.size; simpa using this
   obtain ⟨a4, c4, hv4, _, _⟩ := sl_form hr4
   simp only [List.cons.injEq, and_true] at hv4
   subst hv4
   have O4 := OW.out.below hbw4
   have HR4 := hid (rEntries.mono hr4 (S' := fun b => wr.heap.size + 1 ≤ b ∧ b < w4.heap.size) fun b h => by simpa [Fresh] using h)
   clear hr4
   obtain ⟨cells0, OA0⟩ := OW.out
   have hlt0 : ∀ g, u3.ownBlock = some g → g < wr.heap.size := fun g e => (OA0.1.lt g e).2
   have O5 := O4.below (show Below w4.heap.size w4 (w4.alloc (.cells #[.int .u64 z.epoch, .int .u64 z.base, .slice a4 z.entries.length c4] 25)) from by (repeat first | exact zR | assumption | apply zA | apply zS | apply zD | apply zN | refine zT (by assumption) ?_ | omega | simp <;> omega))
   obtain ⟨cells, OA⟩ := O5
   have hx : rBatch.r (fun b => W.heap.size ≤ b ∧ b < ((w4.alloc (.cells #[.int .u64 z.epoch, .int .u64 z.base, .slice a4 z.entries.length c4] 25))).heap.size ∧ u3.ownBlock ≠ some b) (w4.alloc (.cells #[.int .u64 z.epoch, .int .u64 z.base, .slice a4 z.entries.length c4] 25)) [.int .u64 z.epoch, .int .u64 z.base, .slice a4 z.entries.length c4] z := by
    have hbs := hb.size
    refine batch_mk g0 g1 (rEntries.mono (rEntries.keep HR4.out fun b hb => Below.heap_alloc w4 _ b hb.2) fun b hb' => ⟨?_, ?_, fun e => ?_⟩)
    ·omega
    ·simp; omega
    ·have := hlt0 b e; omega
   have hb9 : Below W.heap.size W (w4.alloc (.cells #[.int .u64 z.epoch, .int .u64 z.base, .slice a4 z.entries.length c4] 25)) := below_alloc (below_then hbw4 hb) _
   have HX := hid hx; clear hx
   have HS9 := hid hb9.size
   have HA := hid OA; clear OA OA0 O4 hlt0
   have HB9 := hid hb9; clear hb9
   go_wp2_with (at_builtin; go_loud (refine wpList_append_src rfl _ _ _ rfl W.heap.size 25 i0 (.agg #[.int .u64 0, .int .u64 0, .slice none 0 0]) 3 40 Tryz.underlying60 hi hz0 hz1 hz2 rfl (by decide) u3 T.length _ rfl HA.out.1 (some ⟨w4.heap.size, 0, none⟩) 1 1 [.int .u64 z.epoch, .int .u64 z.base, .slice a4 z.entries.length c4] rfl (src_new1 w4 25 _ rfl rfl rfl) (by intro u hu; simp at hu; rcases hu with rfl | rfl | rfl <;> rfl) (by simp only [maxLen]; omega) (by omega) HS9.out ?_; intro v1 w5 hown1 hgrow1 hat1; have OP := hid (OwnEls.push HA.out rfl HX.out hown1 hgrow1 hat1 hgrow1.size); have B5 := hid (HB9.out.grown hgrow1 HS9.out (fun g e => (HA.out.1.lt g e).1)); clear hown1 hgrow1 hat1))
   go_roundw
   case rel => exact ⟨T.length + 1, by omega, by go_num, by rw [htk.out]; exact OP.out, B5.out⟩
   case measure => simp [intOf]; omega
  ·obtain rfl : k = l.length := by omega
   rw [List.take_length] at hown
   obtain ⟨av, cv, rfl⟩ := OwnEls.form hown
   have HV := hid hown; clear hown
   have P0 := Q0.out.below hb LT0
   have P1 := Q1.out.below hb LT1
   have y0 : wr.cell? ⟨w.heap.size, 0, none⟩ = some (.int .u64 ep) := P0.cell 0
   have y2 : wr.cell? ⟨w.heap.size, 1, none⟩ = some (.slice a l.length c) := P0.cell 1
   have y3 := P0.free 1
   have z0 : wr.cell? ⟨w.heap.size + 1, 0, none⟩ = some (.int .u64 0) := P1.cell 0
   have z2 : wr.cell? ⟨w.heap.size + 1, 1, none⟩ = some (.slice none 0 0) := P1.cell 1
   have f0 := P1.free 0
   have f1 := P1.free 1
   clear P0 P1
   go_wp2
   refine bodyPost_ret (v := .agg #[.int .u64 ep, .slice av l.length cv]) (by simp [results, Tryz.results60, go_sem, y0, y2, z0, z2]) rfl ⟨_, rfl, ?_, by (repeat first | exact zR | assumption | apply zA | apply zS | apply zD | apply zN | refine zT (by assumption) ?_ | omega | simp <;> omega)⟩
   have hw2 := HW.out
   exact OwnEls.low (OwnEls.stay HV.out (fun b hb hb2 => by repeat rw [Below.heap_setCell _ _ _ _ (by dsimp only; omega)]) (by simp)) (by omega) (by omega)
def appendC (ep : Int) (l : List Batch) (b : Batch) : Int := if segR ⟨ep, l⟩ = false ∨ batchR b = false then 3 else if l.length = 16 then 2 else if mayR ep (prevB l l.length) b = false then 13 else 0
end Go.Proofs.YtkipiefcnjfdjaaGreat
namespace Go.Bs
open Go.RowKit
set_option linter.unusedVariables false
def crcStep (c : Nat) : Nat := if c % 2 = 1 then (c / 2) ^^^ 2197175160 else c / 2
def crc4 (c : Nat) : Nat := crcStep (crcStep (crcStep (crcStep c)))
def crcByte (c : Nat) (x : UInt8) : Nat := crc4 (crc4 (c ^^^ x.toNat))
def crcAdd (c : Nat) (D : List UInt8) : Nat := D.foldl crcByte c
def crcSum (D : List UInt8) : Nat := 4294967295 - crcAdd 4294967295 D
theorem xor_lt32 {a b : Nat} (ha : a < 4294967296) (hb : b < 4294967296) : a ^^^ b < 4294967296 := Nat.xor_lt_two_pow (n := 32) ha hb
theorem crcStep_lt {c : Nat} (h : c < 4294967296) : crcStep c < 4294967296 := by
 unfold crcStep
 split
 ·exact xor_lt32 (by omega) (by decide)
 ·omega
theorem crc4_lt {c : Nat} (h : c < 4294967296) : crc4 c < 4294967296 := crcStep_lt (crcStep_lt (crcStep_lt (crcStep_lt h)))
theorem crcByte_lt {c : Nat} {x : UInt8} (h : c < 4294967296) : crcByte c x < 4294967296 := crc4_lt (crc4_lt (xor_lt32 h (by have := x.toNat_lt; omega)))
theorem crcAdd_lt : ∀ (D : List UInt8) {c : Nat}, c < 4294967296 → crcAdd c D < 4294967296
 | [], c, h => h
 | x :: D, c, h => crcAdd_lt D (crcByte_lt h)
theorem crcSum_lt (D : List UInt8) : crcSum D < 4294967296 := by unfold crcSum; omega
theorem xor_even (a d : Nat) : (a ^^^ 2 * d) % 2 = a % 2 := by
 have h := Nat.xor_mod_two_pow (a := a) (b := 2 * d) (n := 1)
 rw [Nat.pow_one, show 2 * d % 2 = 0 by omega, Nat.xor_zero] at h
 exact h
theorem crcStep_xor (a d : Nat) : crcStep (a ^^^ 2 * d) = crcStep a ^^^ d := by
 have h1 := xor_even a d
 have h2 : (a ^^^ 2 * d) / 2 = a / 2 ^^^ d := by rw [Nat.xor_div_two]; congr 1; omega
 unfold crcStep
 rw [h1, h2]
 split
 ·rw [Nat.xor_assoc, Nat.xor_assoc, Nat.xor_comm d]
 ·rfl
theorem crc4_xor (a h : Nat) : crc4 (a ^^^ 16 * h) = crc4 a ^^^ h := by
 unfold crc4
 rw [show 16 * h = 2 * (2 * (2 * (2 * h))) by omega, crcStep_xor, crcStep_xor, crcStep_xor, crcStep_xor]
theorem xor16 (h l : Nat) (hl : l < 16) : l ^^^ 16 * h = 16 * h + l := by
 have h1 : (l ^^^ 16 * h) / 2 = l / 2 ^^^ 8 * h := by rw [Nat.xor_div_two]; congr 1; omega
 have h2 : (l / 2 ^^^ 8 * h) / 2 = l / 4 ^^^ 4 * h := by rw [Nat.xor_div_two]; congr 1 <;> omega
 have h3 : (l / 4 ^^^ 4 * h) / 2 = l / 8 ^^^ 2 * h := by rw [Nat.xor_div_two]; congr 1 <;> omega
 have h4 : (l / 8 ^^^ 2 * h) / 2 = h := by
  rw [Nat.xor_div_two, show l / 8 / 2 = 0 by omega, show 2 * h / 2 = h by omega, Nat.zero_xor]
 have g1 : (l ^^^ 16 * h) % 2 = l % 2 := by rw [show 16 * h = 2 * (8 * h) by omega]; exact xor_even _ _
 have g2 : (l / 2 ^^^ 8 * h) % 2 = l / 2 % 2 := by rw [show 8 * h = 2 * (4 * h) by omega]; exact xor_even _ _
 have g3 : (l / 4 ^^^ 4 * h) % 2 = l / 4 % 2 := by rw [show 4 * h = 2 * (2 * h) by omega]; exact xor_even _ _
 have g4 : (l / 8 ^^^ 2 * h) % 2 = l / 8 % 2 := xor_even _ _
 omega
theorem crc4_look (c : Nat) : c / 16 ^^^ crc4 (c % 16) = crc4 c := by
 have h := crc4_xor (c % 16) (c / 16)
 rw [xor16 _ _ (by omega), show 16 * (c / 16) + c % 16 = c by omega] at h
 rw [h, Nat.xor_comm]
def tabV (k : Nat) : Array Value := ((List.range 16).map fun j => Value.int .u32 ((if j < k then crc4 j else 0 : Nat) : Int)).toArray
theorem tabV_at (k j : Nat) (hj : j < 16) : (tabV k)[j]? = some (.int .u32 ((if j < k then crc4 j else 0 : Nat) : Int)) := by
 simp [tabV, hj]
theorem tabV_set (k : Nat) (hk : k < 16) : (tabV k).setIfInBounds k (.int .u32 (crc4 k : Int)) = tabV (k + 1) := by
 apply Array.ext_getElem?
 intro j
 rw [Array.getElem?_setIfInBounds]
 by_cases hj : j < 16
 ·rw [tabV_at _ _ hj, tabV_at _ _ hj]
  by_cases e : k = j
  ·subst e; simp [tabV, hk]
  ·rw [if_neg e]
   congr 2
   by_cases h : j < k
   ·rw [if_pos h, if_pos (by omega)]
   ·rw [if_neg h, if_neg (by omega)]
 ·have h1 : ∀ m, (tabV m)[j]? = none := fun m => by simp [tabV]; omega
  rw [h1, h1]
  split <;> simp [tabV]; omega
def iter4 : Nat → Nat → Nat
 | 0, c => c
 | n + 1, c => crcStep (iter4 n c)
theorem iter4_lt {c : Nat} (h : c < 4294967296) : ∀ n, iter4 n c < 4294967296
 | 0 => h
 | n + 1 => crcStep_lt (iter4_lt h n)
theorem and1_u32 {c : Nat} (h : c < 4294967296) : bits BinOp.and IntKind.u32 (c : Int) 1 = ((c % 2 : Nat) : Int) := by
 have := u32_and_nat c 1 h (by decide)
 rw [nat_mask1] at this
 exact this
theorem and15_u32 {c : Nat} (h : c < 4294967296) : bits BinOp.and IntKind.u32 (c : Int) 15 = ((c % 16 : Nat) : Int) := by
 have := u32_and_nat c 15 h (by decide)
 rw [nat_mask4] at this
 exact this
theorem poly_u32 {c : Nat} (h : c < 4294967296) : bits BinOp.xor IntKind.u32 ((c : Int) / 2) 2197175160 = ((c / 2 ^^^ 2197175160 : Nat) : Int) := by
 have := u32_xor_nat (c / 2) 2197175160 (by omega) (by decide)
 rw [← this]
 rfl
theorem not_u32 {c : Nat} (h : c < 4294967296) : bits BinOp.xor IntKind.u32 IntKind.u32.max (c : Int) = ((4294967295 - c : Nat) : Int) := by
 have e : IntKind.u32.max = ((4294967295 : Nat) : Int) := rfl
 rw [e, u32_xor_nat _ _ (by decide) h]
 have h1 : 4294967295 ^^^ c = 4294967295 - c := by
  have h2 := BitVec.toNat_not (x := BitVec.ofNat 32 c)
  rw [BitVec.not_def, BitVec.toNat_xor, BitVec.toNat_allOnes, BitVec.toNat_ofNat, Nat.mod_eq_of_lt (by omega)] at h2
  exact h2
 rw [h1]
end Go.Bs
namespace Go.Proofs.YtkipiefcnjfdjaaGreat
open Go.RowKit Go.Bs Go.Maps
set_option linter.unusedVariables false
set_option linter.unusedSimpArgs false
theorem crc_step (c : Nat) (hc : c < 4294967296) (w : World) :
  Calls Tryz.prog 294 #[.int .u32 c] w fun r w' => r = .returned (.int .u32 (crcStep c)) ∧ w = w' := by
 by_cases h : c % 2 = 1
 ·have d1 : (bits BinOp.and IntKind.u32 (c : Int) 1 == 1) = true := by rw [and1_u32 hc]; simp; omega
  have hff : Hid ((crcStep c : Int) = bits BinOp.xor IntKind.u32 ((c : Int) / 2) 2197175160) := hid (by rw [poly_u32 hc]; unfold crcStep; rw [if_pos h])
  clear h
  go_enter Tryz.func294, Tryz.ntmps294
  go_wp2
  go_ret
  exact ⟨by rw [hff.out]; rfl, rfl⟩
 ·have d1 : (bits BinOp.and IntKind.u32 (c : Int) 1 == 1) = false := by rw [and1_u32 hc]; simp; omega
  have hff : Hid ((crcStep c : Int) = (c : Int) / 2) := hid (by unfold crcStep; rw [if_neg h]; rfl)
  clear h
  go_enter Tryz.func294, Tryz.ntmps294
  go_wp2
  go_ret
  exact ⟨by rw [hff.out]; rfl, rfl⟩
theorem crc_begin (w : World) : Calls Tryz.prog 269 #[] w fun r w' => r = .returned (.int .u32 4294967295) ∧ w = w' := by
 go_enter Tryz.func269, Tryz.ntmps269
 go_wp2
 go_ret
 exact ⟨rfl, rfl⟩
theorem crc_end (c : Nat) (hc : c < 4294967296) (w : World) :
  Calls Tryz.prog 267 #[.int .u32 c] w fun r w' => r = .returned (.int .u32 ((4294967295 - c : Nat) : Int)) ∧ w = w' := by
 have hff := hid (not_u32 hc)
 go_enter Tryz.func267, Tryz.ntmps267
 go_wp2
 go_ret
 exact ⟨by rw [← hff.out]; rfl, rfl⟩
end Go.Proofs.YtkipiefcnjfdjaaGreat
namespace Go.Proofs.YtkipiefcnjfdjaaGreat
open Go.RowKit Go.Bs Go.Maps
set_option linter.unusedVariables false
set_option linter.unusedSimpArgs false
theorem below_fill16 {w wo : World} {B g : Nat} (h : Below B w wo) (hg : B ≤ g) (v0 v1 v2 v3 v4 v5 v6 v7 v8 v9 v10 v11 v12 v13 v14 v15 : Value) : Below B w (((((((((((((((((wo).setCell ⟨g, 0, none⟩ v0).setCell ⟨g, 1, none⟩ v1).setCell ⟨g, 2, none⟩ v2).setCell ⟨g, 3, none⟩ v3).setCell ⟨g, 4, none⟩ v4).setCell ⟨g, 5, none⟩ v5).setCell ⟨g, 6, none⟩ v6).setCell ⟨g, 7, none⟩ v7).setCell ⟨g, 8, none⟩ v8).setCell ⟨g, 9, none⟩ v9).setCell ⟨g, 10, none⟩ v10).setCell ⟨g, 11, none⟩ v11).setCell ⟨g, 12, none⟩ v12).setCell ⟨g, 13, none⟩ v13).setCell ⟨g, 14, none⟩ v14).setCell ⟨g, 15, none⟩ v15) :=
 ((((((((((((((((h).setCell (p := ⟨g, 0, none⟩) hg v0).setCell (p := ⟨g, 1, none⟩) hg v1).setCell (p := ⟨g, 2, none⟩) hg v2).setCell (p := ⟨g, 3, none⟩) hg v3).setCell (p := ⟨g, 4, none⟩) hg v4).setCell (p := ⟨g, 5, none⟩) hg v5).setCell (p := ⟨g, 6, none⟩) hg v6).setCell (p := ⟨g, 7, none⟩) hg v7).setCell (p := ⟨g, 8, none⟩) hg v8).setCell (p := ⟨g, 9, none⟩) hg v9).setCell (p := ⟨g, 10, none⟩) hg v10).setCell (p := ⟨g, 11, none⟩) hg v11).setCell (p := ⟨g, 12, none⟩) hg v12).setCell (p := ⟨g, 13, none⟩) hg v13).setCell (p := ⟨g, 14, none⟩) hg v14).setCell (p := ⟨g, 15, none⟩) hg v15
theorem tabV16 : tabV 16 = #[.int .u32 (crc4 0 : Nat), .int .u32 (crc4 1 : Nat), .int .u32 (crc4 2 : Nat), .int .u32 (crc4 3 : Nat), .int .u32 (crc4 4 : Nat), .int .u32 (crc4 5 : Nat), .int .u32 (crc4 6 : Nat), .int .u32 (crc4 7 : Nat), .int .u32 (crc4 8 : Nat), .int .u32 (crc4 9 : Nat), .int .u32 (crc4 10 : Nat), .int .u32 (crc4 11 : Nat), .int .u32 (crc4 12 : Nat), .int .u32 (crc4 13 : Nat), .int .u32 (crc4 14 : Nat), .int .u32 (crc4 15 : Nat)] := rfl
set_option maxRecDepth 100000 in
set_option maxHeartbeats 1600000 in
theorem crc_table (w : World) :
  Calls Tryz.prog 283 #[] w fun r w' => r = .returned (.agg (tabV 16)) ∧ Below w.heap.size w w' := by
 go_enter Tryz.func283, Tryz.ntmps283
 go_wp2_with fail
 refine wp_world (fun W => Below w.heap.size w W ∧ W.heap.size = w.heap.size + 2 ∧ Blk W w.heap.size 310 (tabV 0) ∧ Blk W (w.heap.size + 1) 310 (tabV 0)) ⟨by (repeat first | exact zR | assumption | apply zA | apply zS | apply zD | apply zN | refine zT (by assumption) ?_ | omega | simp <;> omega), by simp, (Blk.new w _ _).alloc _, Blk.new1 w _ _ _⟩ ?_
 intro W ⟨hbW, hzW, q0, q1⟩
 have Q0 := hid q0; have Q1 := hid q1; have HZ := hid hzW
 clear q0 q1 hzW
 go_loopw [4] (fun i wr => ∃ k : Nat, k ≤ 16 ∧ i = .int .i64 k ∧ Tch (· = w.heap.size + 1) W wr ∧ Blk wr (w.heap.size + 1) 310 (tabV k)) (fun i _ => 16 - (intOf i).toNat)
 case atStart => exact ⟨0, by omega, rfl, Tch.refl _ _, Q1.out⟩
 case round =>
  obtain ⟨k, hk, rfl, ht, hB⟩ := hrel
  obtain ⟨wo, hwo⟩ : ∃ wo : World, wo = wr := ⟨_, rfl⟩
  subst hwo
  have HT := hid ht; have HB := hid hB
  clear ht hB
  by_cases hlt : k < 16
  ·have i1 : (k : Int) < 16 := by omega
   have e1 : (k : Int) % 4294967296 = k := by omega
   go_wp2_with fail
   go_loopw [3, 9] (fun c j w' => ∃ n : Nat, n ≤ 4 ∧ j = .int .i64 n ∧ c = .int .u32 (iter4 n k : Nat) ∧ w' = wo) (fun _ j _ => 4 - (intOf j).toNat)
   case atStart => exact ⟨0, by omega, rfl, by simp [iter4, e1], rfl⟩
   case round =>
    obtain ⟨n, hn, rfl, rfl, rfl⟩ := hrel
    by_cases hl4 : n < 4
    ·have i2 : (n : Int) < 4 := by omega
     have HS := hid (crc_step (iter4 n k) (iter4_lt (by omega) n) wr)
     go_wp2_with fail
     refine HS.out.mono ?_
     rintro r w1 ⟨rfl, rfl⟩
     go_wp2
     go_roundw
     case rel => exact ⟨n + 1, by omega, by go_num, rfl, trivial⟩
     case measure => simp [intOf]; omega
    ·obtain rfl : n = 4 := by omega
     have hB2 : Blk (wr.setCell ⟨w.heap.size + 1, k, none⟩ (.int .u32 (iter4 4 k : Nat))) (w.heap.size + 1) 310 (tabV (k + 1)) := by
      rw [← tabV_set k hlt]; exact HB.out.set k _
     have c9 : wr.cell? ⟨w.heap.size + 1, k, none⟩ = some (.int .u32 ((if k < k then crc4 k else 0 : Nat) : Int)) := (HB.out.cell k).trans (tabV_at k k hlt)
     have f9 := HB.out.free k
     have HB2 := hid hB2
     have HT2 := hid (HT.out.setCell (p := ⟨w.heap.size + 1, k, none⟩) (fun _ => rfl) (.int .u32 (iter4 4 k : Nat)))
     clear hB2
     go_wp2
     go_roundw
     case rel => exact ⟨k + 1, by omega, by go_num, HT2.out, HB2.out⟩
     case measure => simp [intOf]; omega
  ·obtain rfl : k = 16 := by omega
   obtain ⟨v0, v1, v2, v3, v4, v5, v6, v7, v8, v9, v10, v11, v12, v13, v14, v15, hv⟩ : ∃ v0 v1 v2 v3 v4 v5 v6 v7 v8 v9 v10 v11 v12 v13 v14 v15 : Nat, tabV 16 = #[Value.int .u32 (v0 : Int), Value.int .u32 (v1 : Int), Value.int .u32 (v2 : Int), Value.int .u32 (v3 : Int), Value.int .u32 (v4 : Int), Value.int .u32 (v5 : Int), Value.int .u32 (v6 : Int), Value.int .u32 (v7 : Int), Value.int .u32 (v8 : Int), Value.int .u32 (v9 : Int), Value.int .u32 (v10 : Int), Value.int .u32 (v11 : Int), Value.int .u32 (v12 : Int), Value.int .u32 (v13 : Int), Value.int .u32 (v14 : Int), Value.int .u32 (v15 : Int)] := ⟨_, _, _, _, _, _, _, _, _, _, _, _, _, _, _, _, tabV16⟩
   have hB9 := HB.out
   rw [hv] at hB9
   have HV := hid hv
   have hB0 : Blk wo w.heap.size 310 (tabV 0) := Q0.out.tch HT.out (by simp)
   have y0 : wo.cell? ⟨w.heap.size + 1, 0, none⟩ = some (.int .u32 (v0 : Int)) := hB9.cell 0
   have z0 : wo.cell? ⟨w.heap.size, 0, none⟩ = some (.int .u32 0) := (hB0.cell 0).trans (tabV_at 0 0 (by decide))
   have f0 := hB0.free 0
   have y1 : wo.cell? ⟨w.heap.size + 1, 1, none⟩ = some (.int .u32 (v1 : Int)) := hB9.cell 1
   have z1 : wo.cell? ⟨w.heap.size, 1, none⟩ = some (.int .u32 0) := (hB0.cell 1).trans (tabV_at 0 1 (by decide))
   have f1 := hB0.free 1
   have y2 : wo.cell? ⟨w.heap.size + 1, 2, none⟩ = some (.int .u32 (v2 : Int)) := hB9.cell 2
   have z2 : wo.cell? ⟨w.heap.size, 2, none⟩ = some (.int .u32 0) := (hB0.cell 2).trans (tabV_at 0 2 (by decide))
   have f2 := hB0.free 2
   have y3 : wo.cell? ⟨w.heap.size + 1, 3, none⟩ = some (.int .u32 (v3 : Int)) := hB9.cell 3
   have z3 : wo.cell? ⟨w.heap.size, 3, none⟩ = some (.int .u32 0) := (hB0.cell 3).trans (tabV_at 0 3 (by decide))
   have f3 := hB0.free 3
   have y4 : wo.cell? ⟨w.heap.size + 1, 4, none⟩ = some (.int .u32 (v4 : Int)) := hB9.cell 4
   have z4 : wo.cell? ⟨w.heap.size, 4, none⟩ = some (.int .u32 0) := (hB0.cell 4).trans (tabV_at 0 4 (by decide))
   have f4 := hB0.free 4
   have y5 : wo.cell? ⟨w.heap.size + 1, 5, none⟩ = some (.int .u32 (v5 : Int)) := hB9.cell 5
   have z5 : wo.cell? ⟨w.heap.size, 5, none⟩ = some (.int .u32 0) := (hB0.cell 5).trans (tabV_at 0 5 (by decide))
   have f5 := hB0.free 5
   have y6 : wo.cell? ⟨w.heap.size + 1, 6, none⟩ = some (.int .u32 (v6 : Int)) := hB9.cell 6
   have z6 : wo.cell? ⟨w.heap.size, 6, none⟩ = some (.int .u32 0) := (hB0.cell 6).trans (tabV_at 0 6 (by decide))
   have f6 := hB0.free 6
   have y7 : wo.cell? ⟨w.heap.size + 1, 7, none⟩ = some (.int .u32 (v7 : Int)) := hB9.cell 7
   have z7 : wo.cell? ⟨w.heap.size, 7, none⟩ = some (.int .u32 0) := (hB0.cell 7).trans (tabV_at 0 7 (by decide))
   have f7 := hB0.free 7
   have y8 : wo.cell? ⟨w.heap.size + 1, 8, none⟩ = some (.int .u32 (v8 : Int)) := hB9.cell 8
   have z8 : wo.cell? ⟨w.heap.size, 8, none⟩ = some (.int .u32 0) := (hB0.cell 8).trans (tabV_at 0 8 (by decide))
   have f8 := hB0.free 8
   have y9 : wo.cell? ⟨w.heap.size + 1, 9, none⟩ = some (.int .u32 (v9 : Int)) := hB9.cell 9
   have z9 : wo.cell? ⟨w.heap.size, 9, none⟩ = some (.int .u32 0) := (hB0.cell 9).trans (tabV_at 0 9 (by decide))
   have f9 := hB0.free 9
   have y10 : wo.cell? ⟨w.heap.size + 1, 10, none⟩ = some (.int .u32 (v10 : Int)) := hB9.cell 10
   have z10 : wo.cell? ⟨w.heap.size, 10, none⟩ = some (.int .u32 0) := (hB0.cell 10).trans (tabV_at 0 10 (by decide))
   have f10 := hB0.free 10
   have y11 : wo.cell? ⟨w.heap.size + 1, 11, none⟩ = some (.int .u32 (v11 : Int)) := hB9.cell 11
   have z11 : wo.cell? ⟨w.heap.size, 11, none⟩ = some (.int .u32 0) := (hB0.cell 11).trans (tabV_at 0 11 (by decide))
   have f11 := hB0.free 11
   have y12 : wo.cell? ⟨w.heap.size + 1, 12, none⟩ = some (.int .u32 (v12 : Int)) := hB9.cell 12
   have z12 : wo.cell? ⟨w.heap.size, 12, none⟩ = some (.int .u32 0) := (hB0.cell 12).trans (tabV_at 0 12 (by decide))
   have f12 := hB0.free 12
   have y13 : wo.cell? ⟨w.heap.size + 1, 13, none⟩ = some (.int .u32 (v13 : Int)) := hB9.cell 13
   have z13 : wo.cell? ⟨w.heap.size, 13, none⟩ = some (.int .u32 0) := (hB0.cell 13).trans (tabV_at 0 13 (by decide))
   have f13 := hB0.free 13
   have y14 : wo.cell? ⟨w.heap.size + 1, 14, none⟩ = some (.int .u32 (v14 : Int)) := hB9.cell 14
   have z14 : wo.cell? ⟨w.heap.size, 14, none⟩ = some (.int .u32 0) := (hB0.cell 14).trans (tabV_at 0 14 (by decide))
   have f14 := hB0.free 14
   have y15 : wo.cell? ⟨w.heap.size + 1, 15, none⟩ = some (.int .u32 (v15 : Int)) := hB9.cell 15
   have z15 : wo.cell? ⟨w.heap.size, 15, none⟩ = some (.int .u32 0) := (hB0.cell 15).trans (tabV_at 0 15 (by decide))
   have f15 := hB0.free 15
   clear hB9 hv HB
   clear hB0
   go_wp2
   refine bodyPost_ret (v := .agg #[Value.int .u32 (v0 : Int), Value.int .u32 (v1 : Int), Value.int .u32 (v2 : Int), Value.int .u32 (v3 : Int), Value.int .u32 (v4 : Int), Value.int .u32 (v5 : Int), Value.int .u32 (v6 : Int), Value.int .u32 (v7 : Int), Value.int .u32 (v8 : Int), Value.int .u32 (v9 : Int), Value.int .u32 (v10 : Int), Value.int .u32 (v11 : Int), Value.int .u32 (v12 : Int), Value.int .u32 (v13 : Int), Value.int .u32 (v14 : Int), Value.int .u32 (v15 : Int)]) (by simp [results, Tryz.results283, go_sem, z0, z1, z2, z3, z4, z5, z6, z7, z8, z9, z10, z11, z12, z13, z14, z15]) rfl ⟨by rw [HV.out], ?_⟩
   have hb2 : Below w.heap.size W wo := HT.out.to_below (by have := HZ.out; omega) (by intro b _ e; omega)
   have hb3 := hbW.trans hb2
   exact below_fill16 hb3 (Nat.le_refl _) (.int .u32 (v0 : Int)) (.int .u32 (v1 : Int)) (.int .u32 (v2 : Int)) (.int .u32 (v3 : Int)) (.int .u32 (v4 : Int)) (.int .u32 (v5 : Int)) (.int .u32 (v6 : Int)) (.int .u32 (v7 : Int)) (.int .u32 (v8 : Int)) (.int .u32 (v9 : Int)) (.int .u32 (v10 : Int)) (.int .u32 (v11 : Int)) (.int .u32 (v12 : Int)) (.int .u32 (v13 : Int)) (.int .u32 (v14 : Int)) (.int .u32 (v15 : Int))
end Go.Proofs.YtkipiefcnjfdjaaGreat
namespace Go.Proofs.YtkipiefcnjfdjaaGreat
open Go.RowKit Go.Bs Go.Maps
set_option linter.unusedVariables false
set_option linter.unusedSimpArgs false
theorem look_u32 {y : Nat} (h : y < 4294967296) : bits BinOp.xor IntKind.u32 ((y : Int) / 16) ((crc4 (y % 16) : Nat) : Int) = ((crc4 y : Nat) : Int) := by
 have := u32_xor_nat (y / 16) (crc4 (y % 16)) (by omega) (crc4_lt (by omega))
 rw [crc4_look] at this
 rw [← this]
 rfl
theorem into_u32 {c : Nat} (h : c < 4294967296) (x : UInt8) : bits BinOp.xor IntKind.u32 (c : Int) ((x.toNat : Int) % 4294967296) = ((c ^^^ x.toNat : Nat) : Int) := by
 have hx := x.toNat_lt
 rw [← u32_xor_nat c x.toNat h (by omega), show (x.toNat : Int) % 4294967296 = (x.toNat : Int) by omega]
set_option maxRecDepth 100000 in
set_option maxHeartbeats 1600000 in
theorem crc_add (c : Nat) (hc : c < 4294967296) (D : List UInt8) (ad : Option Addr) (nd cd : Nat) (w : World) (hD : rBytes.r (· < w.heap.size) w [.slice ad nd cd] D) :
  Calls Tryz.prog 268 #[.int .u32 c, .slice ad nd cd] w fun r w' => r = .returned (.int .u32 (crcAdd c D : Nat)) ∧ Below w.heap.size w w' := by
 obtain ⟨rfl, hm, _, _⟩ := sl_len hD
 have HD := hid hD; clear hD
 go_enter Tryz.func268, Tryz.ntmps268
 go_wp2_with fail
 refine (crc_table w).mono ?_
 rintro r w1 ⟨rfl, hb1⟩
 obtain ⟨v0, v1, v2, v3, v4, v5, v6, v7, v8, v9, v10, v11, v12, v13, v14, v15, hv⟩ : ∃ v0 v1 v2 v3 v4 v5 v6 v7 v8 v9 v10 v11 v12 v13 v14 v15 : Nat, tabV 16 = #[Value.int .u32 (v0 : Int), Value.int .u32 (v1 : Int), Value.int .u32 (v2 : Int), Value.int .u32 (v3 : Int), Value.int .u32 (v4 : Int), Value.int .u32 (v5 : Int), Value.int .u32 (v6 : Int), Value.int .u32 (v7 : Int), Value.int .u32 (v8 : Int), Value.int .u32 (v9 : Int), Value.int .u32 (v10 : Int), Value.int .u32 (v11 : Int), Value.int .u32 (v12 : Int), Value.int .u32 (v13 : Int), Value.int .u32 (v14 : Int), Value.int .u32 (v15 : Int)] := ⟨_, _, _, _, _, _, _, _, _, _, _, _, _, _, _, _, tabV16⟩
 rw [hv]
 have HV := hid hv
 clear hv
 go_wp2_with fail
 refine wp_world (fun W => Below w.heap.size w W ∧ w1.heap.size < W.heap.size ∧ Blk W w1.heap.size 310 (tabV 16)) ⟨by (repeat first | with_reducible (first | exact zR | assumption | apply zA | apply zS | apply zD | apply zN) | refine zT (by with_reducible assumption) ?_ | omega | simp <;> omega), by simp, by rw [HV.out]; exact Blk.new w1 _ _⟩ ?_
 intro W ⟨hbW, hzW, hQ⟩
 have HQ := hid hQ; clear hQ
 go_wp2_with fail
 go_loopw [0, 11] (fun s i wr => ∃ (k d : Nat), k ≤ D.length ∧ i = .int .i64 k ∧ s = .int .u32 d ∧ d < 4294967296 ∧ Hid (crcAdd c D = crcAdd d (D.drop k)) ∧ wr = W) (fun _ i _ => D.length - (intOf i).toNat)
 case atStart => exact ⟨0, c, Nat.zero_le _, rfl, rfl, hc, hid rfl, rfl⟩
 case round =>
  obtain ⟨k, d, hk, rfl, rfl, hd, hf, rfl⟩ := hrel
  by_cases hlt : k < D.length
  ·obtain ⟨b, o, hA, hbb, hx⟩ := byte_at (lift HD.out hbW) hlt
   subst hA
   have hst := hid (show crcAdd d (D.drop k) = crcAdd (crcByte d D[k]) (D.drop (k + 1)) by rw [List.drop_eq_getElem_cons hlt]; rfl)
   generalize D[k] = x at *
   have i1 : (k : Int) < (D.length : Int) := by omega
   have hb1 := hid (crcByte_lt (x := x) hd)
   have hcb := hid (show crcByte d x = crc4 (crc4 (d ^^^ x.toNat)) from rfl)
   have hy : d ^^^ x.toNat < 4294967296 := xor_lt32 hd (by have := x.toNat_lt; omega)
   have e1 := into_u32 hd x
   generalize d ^^^ x.toNat = y at *
   have hz : crc4 y < 4294967296 := crc4_lt hy
   have e2 := and15_u32 hy
   have e3 := look_u32 hy
   have m1 : ((y % 16 : Nat) : Int) < 16 := by omega
   have c1 : wr.cell? ⟨w1.heap.size, y % 16, none⟩ = some (.int .u32 (crc4 (y % 16) : Nat)) := by
    have h := (HQ.out.cell (y % 16)).trans (tabV_at 16 (y % 16) (by omega))
    rw [if_pos (by omega)] at h; exact h
   generalize crc4 (y % 16) = t1 at *
   generalize y % 16 = m at *
   generalize crc4 y = z at *
   have e4 := and15_u32 hz
   have e5 := look_u32 hz
   have m2 : ((z % 16 : Nat) : Int) < 16 := by omega
   have c2 : wr.cell? ⟨w1.heap.size, z % 16, none⟩ = some (.int .u32 (crc4 (z % 16) : Nat)) := by
    have h := (HQ.out.cell (z % 16)).trans (tabV_at 16 (z % 16) (by omega))
    rw [if_pos (by omega)] at h; exact h
   generalize crc4 (z % 16) = t2 at *
   generalize z % 16 = n at *
   generalize crc4 z = q at *
   go_wp2
   go_roundw
   case rel => exact ⟨k + 1, q, by omega, by go_num, rfl, by have := hb1.out; rw [hcb.out] at this; exact this, hid (by rw [hf.out, hst.out, hcb.out]), trivial⟩
   case measure => simp [intOf]; omega
  ·obtain rfl : k = D.length := by omega
   have hff : Hid (crcAdd c D = d) := hid (by rw [hf.out, List.drop_length]; rfl)
   go_wp2
   go_ret
   exact ⟨by rw [hff.out]; rfl, hbW⟩
set_option maxRecDepth 100000 in
theorem crc_sum (D : List UInt8) (ad : Option Addr) (nd cd : Nat) (w : World) (hD : rBytes.r (· < w.heap.size) w [.slice ad nd cd] D) :
  Calls Tryz.prog 234 #[.slice ad nd cd] w fun r w' => r = .returned (.int .u32 (crcSum D : Nat)) ∧ Below w.heap.size w w' := by
 have HA := hid (crc_add 4294967295 (by decide) D ad nd cd w hD)
 have hlt := crcAdd_lt D (c := 4294967295) (by decide)
 have hff : Hid (crcSum D = 4294967295 - crcAdd 4294967295 D) := hid rfl
 generalize crcAdd 4294967295 D = s at *
 clear hD
 go_enter Tryz.func234, Tryz.ntmps234
 go_wp2_with fail
 refine (crc_begin w).mono ?_
 rintro r w1 ⟨rfl, rfl⟩
 go_wp2_with fail
 refine HA.out.mono ?_
 rintro r w2 ⟨rfl, hb2⟩
 go_wp2_with fail
 refine (crc_end s hlt w2).mono ?_
 rintro r w3 ⟨rfl, rfl⟩
 go_wp2
 go_ret
 exact ⟨by rw [hff.out]; rfl, hb2⟩
end Go.Proofs.YtkipiefcnjfdjaaGreat
namespace Go.Bs
open Go.RowKit
def fixedB : Nat → Nat → List UInt8
 | 0, _ => []
 | n + 1, x => UInt8.ofNat (x % 256) :: fixedB n (x / 256)
theorem fixedB_len : ∀ (n x : Nat), (fixedB n x).length = n
 | 0, _ => rfl
 | n + 1, x => by simp [fixedB, fixedB_len n]
theorem fixedB_snoc : ∀ (n x : Nat), fixedB (n + 1) x = fixedB n x ++ [UInt8.ofNat (x / 256 ^ n % 256)]
 | 0, x => by simp [fixedB]
 | n + 1, x => by
  rw [fixedB, fixedB_snoc n (x / 256), fixedB, List.cons_append, Nat.div_div_eq_div_mul, Nat.pow_succ, Nat.mul_comm 256]
end Go.Bs
namespace Go.Proofs.YtkipiefcnjfdjaaGreat
open Go.RowKit Go.Bs Go.Maps
set_option linter.unusedVariables false
set_option linter.unusedSimpArgs false
set_option maxRecDepth 100000 in
set_option maxHeartbeats 1600000 in
theorem pen_fixed (x : Nat) (hx : x < 18446744073709551616) (n : Nat) (hn : n ≤ 8) (w : World) :
  Calls Tryz.prog 264 #[.int .u64 x, .int .i64 n] w fun r w' => ∃ v, r = .returned v ∧ w'.ownsRow w.heap.size 5 1 v n (byteCells (fixedB n x)) ∧ Below w.heap.size w w' := by
 obtain ⟨i0, hi, hz0, hz1, hz2⟩ := info_parts info8
 have d1 : max (n : Int) 0 = n := by omega
 have d2 : min (n : Int) 8 = n := by omega
 have d3 : (if (n : Int) < 0 then (0 : Int) else n) = n := by rw [if_neg (by omega)]
 have d4 : (if (8 : Int) < n then (8 : Int) else n) = n := by rw [if_neg (by omega)]
 go_enter Tryz.func264, Tryz.ntmps264
 go_wp2_with fail
 go_loopw [0, 5, 9] (fun y o i wr => ∃ k : Nat, k ≤ n ∧ i = .int .i64 k ∧ y = .int .u64 (x / 256 ^ k : Nat) ∧ wr.ownsRow w.heap.size 5 1 o k (byteCells (fixedB k x)) ∧ Below w.heap.size w wr) (fun _ _ i _ => n - (intOf i).toNat)
 case atStart => exact ⟨0, Nat.zero_le _, rfl, by simp, ⟨rfl, .inl ⟨rfl, rfl⟩⟩, Below.refl _ _⟩
 case round =>
  obtain ⟨k, hk, rfl, rfl, hown, hb⟩ := hrel
  have hbs := hb.size
  obtain ⟨aJ, cJ, rfl⟩ := own_form hown
  have HO := hid hown
  clear hown
  by_cases hlt : k < n
  ·have i1 : (k : Int) < (n : Int) := by omega
   have hy : x / 256 ^ k < 18446744073709551616 := Nat.lt_of_le_of_lt (Nat.div_le_self _ _) hx
   have hfin := hid (fixedB_snoc k x)
   have hdv : Hid (x / 256 ^ (k + 1) = x / 256 ^ k / 256) := hid (by rw [Nat.pow_succ, Nat.div_div_eq_div_mul])
   generalize x / 256 ^ k = y at *
   have hby : Hid ((y : Int) % 256 = ((UInt8.ofNat (y % 256)).toNat : Int)) := hid (by rw [← byte_small (by omega)]; omega)
   have e0 : (y : Int) % 256 % 256 = (y : Int) % 256 := by omega
   go_wp2_with (at_builtin; go_loud (refine wpList_append_src rfl _ _ _ rfl w.heap.size 5 i0 (.int .u8 0) 1 1 Tryz.underlying28 hi hz0 hz1 hz2 rfl (by decide) (.slice aJ k cJ) k (byteCells (fixedB k x)) rfl (own_below HO.out (by (repeat first | with_reducible (first | exact zR | assumption | apply zA | apply zS | apply zD | apply zN) | refine zT (by with_reducible assumption) ?_ | omega | simp <;> omega))) (some ⟨wr.heap.size, 0, none⟩) 1 1 [.int .u8 ((y : Int) % 256)] rfl (src_new1 wr 5 _ rfl rfl rfl) (by intro u hu; simp at hu; subst hu; rfl) (by simp only [maxLen]; omega) (by omega) (by simp; omega) ?_; intro v' w1 hown1 hgrow1 hat1; have HG := hid hgrow1; have HO1 := hid hown1; clear hgrow1 hown1 hat1))
   have ho := HO1.out
   rw [hby.out, byteCells_snoc, ← hfin.out] at ho
   have hB : Below w.heap.size w w1 := Below.grown (by (repeat first | with_reducible (first | exact zR | assumption | apply zA | apply zS | apply zD | apply zN) | refine zT (by with_reducible assumption) ?_ | omega | simp <;> omega)) HG.out (by simp; omega) (fun g e => (HO.out.lt g e).1)
   have HO2 := hid ho
   clear ho
   go_wp2_with fail
   go_roundw
   case rel => exact ⟨k + 1, by omega, by go_num, by rw [hdv.out]; go_num, HO2.out, hB⟩
   case measure => simp [intOf]; omega
  ·obtain rfl : k = n := by omega
   go_wp2
   go_ret
   exact ⟨_, rfl, HO.out, hb⟩
set_option maxRecDepth 100000 in
theorem pen_wfixed (w : World) {g base most : Nat} {J : List UInt8} {a : Option Addr} {c : Nat} (h : PenAt w g base most J a c) (x : Nat) (hx : x < 18446744073709551616) (n : Nat) (hn : n ≤ 8) (hfit : J.length + n ≤ most) (hlen : J.length + n ≤ 100000000000000) :
  Calls Tryz.prog 258 #[.pointer (some ⟨g, 0, none⟩), .int .u64 x, .int .i64 n] w fun r w' => r = .returned (.tuple #[]) ∧ PenStep w g base most (J ++ fixedB n x) a w' := by
 have hl := fixedB_len n x
 have HF := hid (pen_fixed x hx n hn w)
 have HP := hid h
 clear h
 generalize fixedB n x = D at *
 go_enter Tryz.func258, Tryz.ntmps258
 go_wp2_with fail
 refine HF.out.mono ?_
 rintro r w1 ⟨v, rfl, ho, hb1⟩
 obtain ⟨a1, c1, rfl⟩ := own_form ho
 have HQ := hid (pen_put w1 (HP.out.later hb1) D a1 n c1 (own_bytes hl.symm ho) (by omega) (by omega))
 clear ho
 go_wp2_with fail
 refine HQ.out.mono ?_
 rintro r w2 ⟨rfl, hst⟩
 have HST := hid (PenStep.later hb1 hst)
 clear hst
 go_wp2
 first | go_end0 | refine bodyPost_ret (results_none rfl _ _ _) rfl ?_
 exact ⟨rfl, HST.out⟩
end Go.Proofs.YtkipiefcnjfdjaaGreat
namespace Go.Proofs.YtkipiefcnjfdjaaGreat
open Go.RowKit Go.Bs Go.Maps
set_option linter.unusedVariables false
set_option linter.unusedSimpArgs false
def OwnB (w : World) (base : Nat) (v : Value) (L : List UInt8) : Prop := w.ownsRow base 5 1 v L.length (byteCells L)
theorem byteCells_app3 (l l' : List UInt8) : byteCells l ++ byteCells l' = byteCells (l ++ l') := by simp [byteCells]
theorem OwnB.app {w : World} {base : Nat} {v : Value} {L D : List UInt8} (h : w.ownsRow base 5 1 v (L.length + D.length) (byteCells L ++ byteCells D)) : OwnB w base v (L ++ D) := by
 unfold OwnB
 rw [List.length_append, ← byteCells_app3]
 exact h
end Go.Proofs.YtkipiefcnjfdjaaGreat
namespace Go.Proofs.YtkipiefcnjfdjaaGreat
open Go.RowKit Go.Bs Go.Maps
set_option linter.unusedVariables false
set_option linter.unusedSimpArgs false
theorem OwnB.low {w : World} {b b' : Nat} {v : Value} {L : List UInt8} (h : OwnB w b v L) (hb : b' ≤ b) : OwnB w b' v L := by
 obtain ⟨h1, h2⟩ := h
 refine ⟨h1, ?_⟩
 rcases h2 with h2 | ⟨g, cap, cur, e1, e2, e3⟩
 ·exact .inl h2
 ·exact .inr ⟨g, cap, cur, e1, by omega, e3⟩
theorem OwnB.read {w : World} {b : Nat} {v : Value} {L : List UInt8} (h : OwnB w b v L) : rBytes.r (fun q => b ≤ q ∧ q < w.heap.size) w [v] L := own_bytes2 rfl h
theorem OwnB.form {w : World} {b : Nat} {v : Value} {L : List UInt8} (h : OwnB w b v L) : ∃ a c, v = .slice a L.length c := own_form h
set_option maxRecDepth 100000 in
set_option maxHeartbeats 1600000 in
theorem pen_bytes_own (w : World) {g base most : Nat} {J : List UInt8} {a : Option Addr} {c : Nat} (h : PenAt w g base most J a c) :
  Calls Tryz.prog 20 #[.pointer (some ⟨g, 0, none⟩)] w fun r w' => ∃ v, r = .returned (.tuple #[v, .int .i64 0]) ∧ OwnB w' w.heap.size v J ∧ Below w.heap.size w w' := by
 obtain ⟨i0, hi, hz0, hz1, hz2⟩ := info_parts info8
 have HC := hid (pen_code w h)
 have hB := own_bytes2 rfl h.own
 obtain ⟨_, hm, _, _⟩ := sl_len hB
 have HD := hid (rBytes.mono hB (S' := (· < w.heap.size)) fun q hq => hq.2)
 have HONE := hid (byteCells_one J)
 have c1 : w.cell? ⟨g, 1, none⟩ = some (.slice a J.length c) := h.blk.cell 1
 have hg1 := h.blk.lt
 have hle := h.le; have hmo := h.most; have hle14 := h.len
 clear h hB
 go_enter Tryz.func20, Tryz.ntmps20
 go_wp2_with fail
 refine HC.out.mono ?_
 rintro r w0 ⟨rfl, rfl⟩
 go_wp2_with (at_builtin; go_loud (refine wpList_append_src rfl _ _ _ rfl w.heap.size 5 i0 (.int .u8 0) 1 1 Tryz.underlying28 hi hz0 hz1 hz2 rfl (by decide) _ 0 [] rfl (own_empty _ (Nat.le_refl _) rfl) a J.length c (byteCells J) rfl (src_bytes (lift HD.out (by (repeat first | exact zR | assumption | apply zA | apply zS | apply zD | apply zN | refine zT (by assumption) ?_ | omega | simp <;> omega)))) HONE.out (by simp only [maxLen]; omega) (by omega) (by simp) ?_; intro v' w1 hown1 hgrow1 hat1; rw [Nat.zero_add, List.nil_append] at hown1; obtain ⟨a', c', rfl⟩ := own_form hown1; have HG := hid hgrow1; have HO := hid hown1; clear hgrow1 hown1 hat1))
 have hb1 : Below w.heap.size w w1 := Below.grown (by (repeat first | exact zR | assumption | apply zA | apply zS | apply zD | apply zN | refine zT (by assumption) ?_ | omega | simp <;> omega)) HG.out (by simp) (fun g e => by
  have e' : some w.heap.size = some g := e
  injection e' with e'
  omega)
 go_ret2
 exact ⟨_, rfl, HO.out, hb1⟩
theorem bytesWorld_below (w : World) (e : TypeId) (s : ByteArray) : Below w.heap.size w (Lib.bytesWorld w e s) := by
 refine ⟨?_, ?_, ?_, ?_, fun j hj => Lib.bytesWorld_at_old w e s j hj⟩
 ·simp [Lib.bytesWorld, World.freeze, World.alloc, World.drew, -World.alloc_eq, -World.drew_eq]
 ·simp [Lib.bytesWorld, World.freeze, World.alloc, World.drew, -World.alloc_eq, -World.drew_eq]
 ·simp [Lib.bytesWorld, World.freeze, World.alloc, World.drew, -World.alloc_eq, -World.drew_eq]
 ·rw [Lib.bytesWorld_size]; omega
theorem bytesWorld_row (w : World) (e : TypeId) (s : ByteArray) (hs : s.size ≤ 1000000) :
  rBytes.r (fun q => w.heap.size ≤ q ∧ q < (Lib.bytesWorld w e s).heap.size) (Lib.bytesWorld w e s) [.slice (some ⟨w.heap.size, 0, none⟩) s.size (grownCap w s.size 0 e)] s.data.toList := by
 have hn : s.size = s.data.toList.length := by simp
 refine rSl_mk (xs := s.data.toList) (c := grownCap w s.size 0 e) (by rw [← hn]) (hn ▸ grownCap_ge w s.size 0 e) (grownCap_le_maxLen _ _ _ _ (by simp only [maxLen]; omega)) (.inr ⟨w.heap.size, 0, rfl, ⟨Nat.le_refl _, by rw [Lib.bytesWorld_size]; omega⟩, fun i x hi => ⟨[.int .u8 (x.toNat : Int)], rfl, fun j v hj => ?_, rfl⟩⟩)
 have hj0 : j = 0 := by
  rcases j with _ | j
  ·rfl
  ·simp at hj
 subst hj0
 simp at hj
 subst hj
 have hil : i < s.data.toList.length := (List.getElem?_eq_some_iff.1 hi).1
 rw [Nat.zero_add, Nat.mul_one, Nat.add_zero, Lib.bytesWorld_cell w e s i (by omega), List.getD_eq_getElem?_getD, hi]
 rfl
set_option maxRecDepth 100000 in
theorem pen_text (w : World) {g base most : Nat} {J : List UInt8} {a : Option Addr} {c : Nat} (h : PenAt w g base most J a c) (s : ByteArray) (hs : s.size ≤ 1000000) (D : List UInt8) (hD : s.data.toList = D) (hfit : J.length + D.length ≤ most) (hlen : J.length + D.length ≤ 100000000000000) :
  Calls Tryz.prog 265 #[.pointer (some ⟨g, 0, none⟩), .string s] w fun r w' => r = .returned (.tuple #[]) ∧ PenStep w g base most (J ++ D) a w' := by
 have kc := fun (W : World) => Lib.run_convert_string_bytes (P := Tryz.prog) W 9 28 5 s Tryz.underlying9 Tryz.underlying28 Tryz.underlying5
 have hb := bytesWorld_below w 5 s
 have hr := bytesWorld_row w 5 s hs
 rw [hD] at hr
 have HQ := hid (pen_put (Lib.bytesWorld w 5 s) (h.later hb) D _ _ _ (rBytes.mono hr fun q hq => hq.2) hfit hlen)
 have HB := hid hb
 clear hb hr h hD
 go_enter Tryz.func265, Tryz.ntmps265
 go_wp2_with fail
 refine HQ.out.mono ?_
 rintro r w2 ⟨rfl, hst⟩
 have HST := hid (PenStep.later HB.out hst)
 clear hst
 go_wp2
 first | go_end0 | refine bodyPost_ret (results_none rfl _ _ _) rfl ?_
 exact ⟨rfl, HST.out⟩
end Go.Proofs.YtkipiefcnjfdjaaGreat
namespace Go.Bs
open Go.RowKit
theorem varB_len_pow : ∀ (k x : Nat), x < 128 ^ (k + 1) → x < 18446744073709551616 → (varB x).length ≤ k + 1
 | 0, x, h, _ => by rw [varB_small (by simpa using h)]; simp
 | k + 1, x, h, h2 => by
  by_cases hx : x < 128
  ·rw [varB_small hx]; simp
  ·rw [varB_step hx h2, List.length_cons]
   have := varB_len_pow k (x / 128) (by rw [Nat.div_lt_iff_lt_mul (by decide)]; rw [Nat.pow_succ] at h; exact h) (by omega)
   omega
theorem varB_len9 {x : Nat} (h : x < 9223372036854775808) : (varB x).length ≤ 9 := varB_len_pow 8 x (by simpa using h) (by omega)
def headP (v ep bs : Nat) : List UInt8 := [84, 72, 79, 76, UInt8.ofNat v] ++ (varB ep ++ (if v = 1 then varB bs else []))
def headHB (v ep bs : Nat) : List UInt8 := headP v ep bs ++ fixedB 4 (crcSum (headP v ep bs))
end Go.Bs
namespace Go.Proofs.YtkipiefcnjfdjaaGreat
open Go.RowKit Go.Bs Go.Maps
set_option linter.unusedVariables false
set_option linter.unusedSimpArgs false
def PenOk (w1 : World) (g most : Nat) (J : List UInt8) (w : World) : Prop := PenStep w1 g g most J none w
theorem PenOk.new {w : World} {g most : Nat} (h : PenAt w g g most [] none 0) : PenOk w g most [] w := PenStep.refl h
theorem PenOk.at {w1 w : World} {g most : Nat} {J : List UInt8} (h : PenOk w1 g most J w) : ∃ a c, PenAt w g g most J a c ∧ (∀ {J' : List UInt8} {w' : World}, PenStep w g g most J' a w' → PenOk w1 g most J' w') ∧ (∀ q, q < w1.heap.size → q ≠ g → ¬ PenF g a q) := by
 obtain ⟨a, c, h1, h2, h3⟩ := h
 refine ⟨a, c, h1, fun k => PenStep.trans (J := J) h2 h3 k, fun q hq hn e => ?_⟩
 rw [penF_is] at e
 rcases e with e | e
 ·exact hn e
 ·rcases h3 with h3 | ⟨q', h3, h4⟩
  ·rw [h3] at e; cases e
  ·rw [h3] at e; have := Option.some.inj e; omega
theorem PenOk.later {w1 w w' : World} {g most : Nat} {J : List UInt8} (h : PenOk w1 g most J w) (hb : Below w.heap.size w w') : PenOk w1 g most J w' := by
 obtain ⟨a, c, h1, k, _⟩ := h.at
 exact k ⟨a, c, h1.later hb, Tch.of_later hb, .inl rfl⟩
theorem PenOk.tch {w1 w : World} {g most : Nat} {J : List UInt8} (h : PenOk w1 g most J w) : Tch (· = g) w1 w := by
 obtain ⟨a, c, h1, h2, h3⟩ := h
 refine h2.mono fun q _ e => ?_
 rw [penF_is] at e
 rcases e with e | e
 ·exact e
 ·cases e
theorem PenOk.blk {w1 w : World} {g most : Nat} {J : List UInt8} (h : PenOk w1 g most J w) {b : Nat} {t : TypeId} {cs : Array Value} (hB : Blk w1 b t cs) (hn : b ≠ g) : Blk w b t cs := hB.tch h.tch hn
theorem PenOk.below {w0 w1 w : World} {g most : Nat} {J : List UInt8} (h : PenOk w1 g most J w) (h0 : Below w0.heap.size w0 w1) (hg : w0.heap.size ≤ g) : Below w0.heap.size w0 w :=
 h0.trans (h.tch.to_below h0.size fun b _ e => by omega)
theorem lit_byte (w : World) (v : Nat) (hv : v < 256) : rBytes.r (· < (w.alloc (.cells #[.int .u8 (v : Int)] 5)).heap.size) (w.alloc (.cells #[.int .u8 (v : Int)] 5)) [.slice (some ⟨w.heap.size, 0, none⟩) 1 1] [UInt8.ofNat v] := by
 have h := lit_one w (UInt8.ofNat v)
 rw [← byte_small hv] at h
 exact h
theorem varB_pos9 : (varB 4611686018427387903).length = 9 := by decide +kernel
theorem header_most (w : World) : Calls Tryz.prog 222 #[] w fun r w' => r = .returned (.int .i64 27) ∧ Below w.heap.size w w' := by
 have HS := hid (varint_size 4611686018427387903 (by decide) w)
 rw [varB_pos9] at HS
 go_enter Tryz.func222, Tryz.ntmps222
 go_wp2_with fail
 refine HS.out.mono ?_
 rintro r w1 ⟨rfl, hb1⟩
 go_wp2
 go_ret
 exact ⟨rfl, hb1⟩
theorem header_based (v : Int) (w : World) : Calls Tryz.prog 232 #[.int .i64 v] w fun r w' => r = .returned (.bool (decide (v = 1))) ∧ w = w' := by
 by_cases h : v = 1
 ·have d1 : (v == 1) = true := by simp [h]
  have hff : Hid (decide (v = 1) = true) := hid (decide_eq_true h)
  clear h
  go_enter Tryz.func232, Tryz.ntmps232
  go_wp2
  go_ret
  exact ⟨by rw [hff.out]; first | rfl | simp [d1], rfl⟩
 ·have d1 : (v == 1) = false := by simp [h]
  have hff : Hid (decide (v = 1) = false) := hid (decide_eq_false h)
  clear h
  go_enter Tryz.func232, Tryz.ntmps232
  go_wp2
  go_ret
  exact ⟨by rw [hff.out]; first | rfl | simp [d1], rfl⟩
set_option maxRecDepth 100000 in
set_option maxHeartbeats 1600000 in
theorem header_plain (v : Nat) (hv : 1 ≤ v ∧ v ≤ 3) (ep bs : Nat) (hep : epR (ep : Int) = true) (hbs : poR (bs : Int) = true) (w : World) :
  Calls Tryz.prog 235 #[.agg #[.int .i64 v, .int .u64 ep, .int .u64 bs]] w fun r w' => ∃ x, r = .returned x ∧ rBytes.r (fun q => w.heap.size ≤ q ∧ q < w'.heap.size) w' [x] (headP v ep bs) ∧ Below w.heap.size w w' := by
 have hep' := hep
 simp only [epR, decide_eq_true_eq] at hep'
 have hbs' := hbs
 simp only [poR, decide_eq_true_eq] at hbs'
 have l1 := varB_len9 (x := ep) (by omega)
 have l2 := varB_len9 (x := bs) (by omega)
 have HB := hid (header_based (v : Int))
 have HN := hid (fun W : World => pen_new W 27 (by omega))
 have HT := hid (fun (W : World) (g : Nat) (h : PenAt W g g 27 [] none 0) => pen_text W h ⟨#[84, 72, 79, 76]⟩ (by decide) [84, 72, 79, 76] rfl (by decide) (by decide))
 go_enter Tryz.func235, Tryz.ntmps235
 go_wp2_with fail
 refine (header_most _).mono ?_
 rintro r w1 ⟨rfl, hb1⟩
 go_wp2_with fail
 refine (HN.out w1).mono ?_
 rintro r w2 ⟨rfl, hp2, hb2⟩
 have k2 := PenOk.new hp2
 go_wp2_with fail
 refine (HT.out w2 _ hp2).mono ?_
 rintro r w3 ⟨rfl, hs3⟩
 have k3 : PenOk w2 w1.heap.size 27 [84, 72, 79, 76] w3 := hs3
 have hz : w.heap.size < w1.heap.size := by have := hb1.size; simp at this; omega
 have hz2 := hb2.size
 have hbw2 : Below w.heap.size w w2 := below_then hb2 (by (repeat first | with_reducible (first | exact zR | assumption | apply zA | apply zS | apply zD | apply zN) | refine zT (by with_reducible assumption) ?_ | omega | simp <;> omega))
 have hbox : Blk w2 w.heap.size 211 #[.int .i64 v, .int .u64 ep, .int .u64 bs] := ((Blk.new w _ _).later hb1).later hb2
 have HBX := hid hbox
 have HBW := hid hbw2
 have K3 := hid k3
 clear hs3 hb1 hb2 hbox hbw2 hp2 k2 k3
 have q3 := K3.out.blk HBX.out (by omega)
 have c0 : w3.cell? ⟨w.heap.size, 0, none⟩ = some (.int .i64 v) := q3.cell 0
 have c1 : w3.cell? ⟨w.heap.size, 1, none⟩ = some (.int .u64 ep) := q3.cell 1
 clear q3
 go_wp2_with fail
 obtain ⟨a3, b3, p3, k3, _⟩ := K3.out.at
 have hW : Below w3.heap.size w3 (w3.alloc (.cells #[.int .u8 (v : Int)] 5)) := by (repeat first | exact zR | assumption | apply zA | apply zS | apply zD | apply zN | refine zT (by assumption) ?_ | omega | simp <;> omega)
 have hlit := lit_byte w3 v (by omega)
 generalize w3.alloc (.cells #[.int .u8 (v : Int)] 5) = W3 at *
 refine (pen_put W3 (p3.later hW) [UInt8.ofNat v] _ 1 1 hlit (by simp) (by simp)).mono ?_
 rintro r w4 ⟨rfl, hs4⟩
 have k4 := k3 (PenStep.later hW hs4)
 have K4 := hid k4
 clear k3 hs4 hW hlit k4 p3
 have q4 := K4.out.blk HBX.out (by omega)
 have c0' : w4.cell? ⟨w.heap.size, 0, none⟩ = some (.int .i64 v) := q4.cell 0
 have c1' : w4.cell? ⟨w.heap.size, 1, none⟩ = some (.int .u64 ep) := q4.cell 1
 have c2' : w4.cell? ⟨w.heap.size, 2, none⟩ = some (.int .u64 bs) := q4.cell 2
 clear q4
 go_wp2_with fail
 obtain ⟨a4, b4, p4, k4, _⟩ := K4.out.at
 refine (epoch_put w4 p4 ep hep (by simp; omega) (by simp; omega)).mono ?_
 rintro r w5 ⟨rfl, hs5⟩
 have K5 := hid (k4 hs5)
 clear k4 hs5 p4
 have q5 := K5.out.blk HBX.out (by omega)
 have x0 : w5.cell? ⟨w.heap.size, 0, none⟩ = some (.int .i64 v) := q5.cell 0
 have x2 : w5.cell? ⟨w.heap.size, 2, none⟩ = some (.int .u64 bs) := q5.cell 2
 clear q5 c0 c1 c0' c1' c2'
 by_cases hv1 : v = 1
 ·have hdd : decide ((v : Int) = 1) = true := by simp; omega
  rw [hdd] at HB
  have hff : Hid (headP v ep bs = [84, 72, 79, 76] ++ [UInt8.ofNat v] ++ varB ep ++ varB bs) := hid (by unfold headP; rw [if_pos hv1]; simp)
  clear hdd hv1
  go_wp2_with fail
  refine (HB.out _).mono ?_
  rintro r w6 ⟨rfl, rfl⟩
  go_wp2_with fail
  obtain ⟨a5, b5, p5, k5, _⟩ := K5.out.at
  refine (epoch_putpos w5 p5 bs hbs (by simp; omega) (by simp; omega)).mono ?_
  rintro r w7 ⟨rfl, hs7⟩
  have K7 := hid (k5 hs7)
  clear k5 hs7 p5
  go_wp2_with fail
  obtain ⟨a7, b7, p7, k7, _⟩ := K7.out.at
  refine (pen_bytes w7 p7).mono ?_
  rintro r w8 ⟨x, rfl, hr, hb8⟩
  have hbw := K7.out.below HBW.out (by omega)
  have HR := hid hr
  clear hr k7 p7
  go_wp2
  go_ret
  refine ⟨_, rfl, ?_, below_then hb8 hbw⟩
  rw [hff.out]
  exact rBytes.mono HR.out fun q hq => ⟨by have := hbw.size; omega, hq.2⟩
 ·have hdd : decide ((v : Int) = 1) = false := by simp; omega
  rw [hdd] at HB
  have hff : Hid (headP v ep bs = [84, 72, 79, 76] ++ [UInt8.ofNat v] ++ varB ep) := hid (by unfold headP; rw [if_neg hv1]; simp)
  clear hdd hv1
  go_wp2_with fail
  refine (HB.out _).mono ?_
  rintro r w6 ⟨rfl, rfl⟩
  go_wp2_with fail
  obtain ⟨a7, b7, p7, k7, _⟩ := K5.out.at
  refine (pen_bytes w5 p7).mono ?_
  rintro r w8 ⟨x, rfl, hr, hb8⟩
  have hbw := K5.out.below HBW.out (by omega)
  have HR := hid hr
  clear hr k7 p7
  go_wp2
  go_ret
  refine ⟨_, rfl, ?_, below_then hb8 hbw⟩
  rw [hff.out]
  exact rBytes.mono HR.out fun q hq => ⟨by have := hbw.size; omega, hq.2⟩
def hdrR (v : Int) (ep bs : Int) : Bool := decide (1 ≤ v ∧ v ≤ 3) && (epR ep && (poR bs && (decide (v = 1) || decide (bs = 0))))
set_option maxRecDepth 100000 in
theorem header_right (v ep bs : Int) (h : hdrR v ep bs = true) (w : World) :
  Calls Tryz.prog 257 #[.agg #[.int .i64 v, .int .u64 ep, .int .u64 bs]] w fun r w' => r = .returned (.bool true) ∧ Below w.heap.size w w' := by
 simp only [hdrR, Bool.and_eq_true, Bool.or_eq_true, decide_eq_true_eq] at h
 obtain ⟨hv, he, hp, hb⟩ := h
 have HE := hid (epoch_right ep); rw [he] at HE
 have HP := hid (epoch_pos bs); rw [hp] at HP
 have HB := hid (header_based v)
 have d1 : decide (1 ≤ v) = true := decide_eq_true hv.1
 have d2 : decide (v ≤ 3) = true := decide_eq_true hv.2
 by_cases hv1 : v = 1
 ·rw [decide_eq_true hv1] at HB
  clear he hp hb hv hv1
  go_enter Tryz.func257, Tryz.ntmps257
  go_wp2_with fail
  refine (HE.out _).mono ?_
  rintro r w1 ⟨rfl, rfl⟩
  go_wp2_with fail
  refine (HP.out _).mono ?_
  rintro r w1 ⟨rfl, rfl⟩
  go_wp2_with fail
  refine (HB.out _).mono ?_
  rintro r w1 ⟨rfl, rfl⟩
  go_wp2
  go_ret
  exact ⟨rfl, by (repeat first | exact zR | assumption | apply zA | apply zS | apply zD | apply zN | refine zT (by assumption) ?_ | omega | simp <;> omega)⟩
 ·rw [decide_eq_false hv1] at HB
  obtain rfl : bs = 0 := by omega
  clear he hp hb hv hv1
  go_enter Tryz.func257, Tryz.ntmps257
  go_wp2_with fail
  refine (HE.out _).mono ?_
  rintro r w1 ⟨rfl, rfl⟩
  go_wp2_with fail
  refine (HP.out _).mono ?_
  rintro r w1 ⟨rfl, rfl⟩
  go_wp2_with fail
  refine (HB.out _).mono ?_
  rintro r w1 ⟨rfl, rfl⟩
  go_wp2
  go_ret
  exact ⟨rfl, by (repeat first | exact zR | assumption | apply zA | apply zS | apply zD | apply zN | refine zT (by assumption) ?_ | omega | simp <;> omega)⟩
end Go.Proofs.YtkipiefcnjfdjaaGreat
namespace Go.Bs
open Go.RowKit
theorem headP_len {v ep bs : Nat} (h1 : (varB ep).length ≤ 9) (h2 : (varB bs).length ≤ 9) : (headP v ep bs).length ≤ 23 := by
 unfold headP
 simp only [List.length_append, List.length_cons, List.length_nil]
 split <;> (try simp only [List.length_nil]) <;> omega
end Go.Bs
namespace Go.Proofs.YtkipiefcnjfdjaaGreat
open Go.RowKit Go.Bs Go.Maps
set_option linter.unusedVariables false
set_option linter.unusedSimpArgs false
def frameB (p : List UInt8) : List UInt8 := blobB p ++ fixedB 4 (crcSum p)
theorem frameB_len (p : List UInt8) : (frameB p).length = (blobB p).length + 4 := by simp [frameB, fixedB_len]
set_option maxRecDepth 100000 in
set_option maxHeartbeats 1600000 in
theorem header_put (w : World) {g base most : Nat} {J : List UInt8} {a : Option Addr} {c : Nat} (h : PenAt w g base most J a c) (v ep bs : Nat) (hR : hdrR (v : Int) ep bs = true) (hfit : J.length + (headHB v ep bs).length ≤ most) (hlen : J.length + (headHB v ep bs).length ≤ 100000000000000) :
  Calls Tryz.prog 223 #[.pointer (some ⟨g, 0, none⟩), .agg #[.int .i64 v, .int .u64 ep, .int .u64 bs]] w fun r w' => r = .returned (.tuple #[]) ∧ PenStep w g base most (J ++ headHB v ep bs) a w' := by
 have HR := hid (header_right v ep bs hR)
 have hR' := hR
 simp only [hdrR, Bool.and_eq_true, Bool.or_eq_true, decide_eq_true_eq] at hR'
 obtain ⟨hv, he, hp, _⟩ := hR'
 have HP := hid (header_plain v (by omega) ep bs he hp)
 have hb : Hid (headHB v ep bs = headP v ep bs ++ fixedB 4 (crcSum (headP v ep bs))) := hid rfl
 have HPN := hid h
 have hl : (headHB v ep bs).length = (headP v ep bs).length + 4 := by rw [hb.out]; simp [fixedB_len]
 rw [hl] at hfit hlen
 have HL := crcSum_lt (headP v ep bs)
 have HC := hid (fun (W : World) (a : Option Addr) (n c : Nat) h => crc_sum (headP v ep bs) a n c W h)
 generalize headHB v ep bs = K at *
 generalize crcSum (headP v ep bs) = s at *
 generalize headP v ep bs = D at *
 clear h hR he hp hv hl
 go_enter Tryz.func223, Tryz.ntmps223
 go_wp2_with fail
 refine (HR.out _).mono ?_
 rintro r w1 ⟨rfl, hb1⟩
 have hbx : Blk w1 w.heap.size 211 #[.int .i64 v, .int .u64 ep, .int .u64 bs] := (Blk.new w _ _).later hb1
 have hbw1 : Below w.heap.size w w1 := by (repeat first | exact zR | assumption | apply zA | apply zS | apply zD | apply zN | refine zT (by assumption) ?_ | omega | simp <;> omega)
 have c0 : w1.cell? ⟨w.heap.size, 0, none⟩ = some (.int .i64 v) := hbx.cell 0
 have c1 : w1.cell? ⟨w.heap.size, 1, none⟩ = some (.int .u64 ep) := hbx.cell 1
 have c2 : w1.cell? ⟨w.heap.size, 2, none⟩ = some (.int .u64 bs) := hbx.cell 2
 clear hbx
 go_wp2_with fail
 refine (HP.out _).mono ?_
 rintro r w2 ⟨x, rfl, hr, hb2⟩
 obtain ⟨a2, c2, hv2, hr2, _⟩ := sl_form hr
 simp only [List.cons.injEq, and_true] at hv2
 subst hv2
 have hbw2 := below_then hb2 hbw1
 have hP2 := HPN.out.later hbw2
 have HD := hid hr2
 have hz2 := hbw1.size
 clear hr hr2
 go_wp2_with fail
 refine (pen_put w2 hP2 D a2 _ c2 (rBytes.mono HD.out fun q hq => hq.2) (by omega) (by omega)).mono ?_
 rintro r w3 ⟨rfl, a3, c3, p3, t3, h3⟩
 have hs3 := t3.size
 have hno : ∀ q, w.heap.size ≤ q → ¬ PenF g a q := fun q hq hf => by have := (HPN.out.own_lt hf).2; omega
 have HD3 := hid (rBytes.keep HD.out fun q hq => t3.block q hq.2 (hno q (by omega)))
 have HST := hid (fun (J' : List UInt8) (W : World) (k : PenStep w3 g base most J' a3 W) => PenStep.later (J' := J') hbw2 (PenStep.trans (J := J ++ D) t3 h3 k))
 have P3 := hid p3
 clear p3 t3 h3 hno hP2
 go_wp2_with fail
 refine (HC.out w3 a2 _ c2 (rBytes.mono HD3.out fun q hq => by have := hq.2; omega)).mono ?_
 rintro r w4 ⟨rfl, hb4⟩
 have e1 : (s : Int) % 18446744073709551616 = s := by omega
 go_wp2_with fail
 refine (pen_wfixed w4 (P3.out.later hb4) s (by omega) 4 (by omega) (by simp; omega) (by simp; omega)).mono ?_
 rintro r w5 ⟨rfl, hs5⟩
 have hst := HST.out _ _ (PenStep.later hb4 hs5)
 rw [List.append_assoc, ← hb.out] at hst
 have HST2 := hid hst
 clear hst hs5
 go_wp2
 first | go_end0 | refine bodyPost_ret (results_none rfl _ _ _) rfl ?_
 exact ⟨rfl, HST2.out⟩
set_option maxRecDepth 100000 in
set_option maxHeartbeats 1600000 in
theorem header_bytes (w : World) (v ep bs : Nat) (hR : hdrR (v : Int) ep bs = true) :
  Calls Tryz.prog 174 #[.agg #[.int .i64 v, .int .u64 ep, .int .u64 bs]] w fun r w' => ∃ x, r = .returned (.tuple #[x, .int .i64 0]) ∧ OwnB w' w.heap.size x (headHB v ep bs) ∧ Below w.heap.size w w' := by
 have hR' := hR
 simp only [hdrR, epR, poR, Bool.and_eq_true, Bool.or_eq_true, decide_eq_true_eq] at hR'
 obtain ⟨hv, he, hp, _⟩ := hR'
 have hl : (headHB v ep bs).length ≤ 27 := by
  have := headP_len (v := v) (varB_len9 (x := ep) (by omega)) (varB_len9 (x := bs) (by omega))
  simp only [headHB, List.length_append, fixedB_len]
  omega
 have HN := hid (fun W : World => pen_new W 27 (by omega))
 have HP := hid (fun (W : World) (g : Nat) (h : PenAt W g g 27 [] none 0) => header_put W h v ep bs hR (by simpa using hl) (by simp; omega))
 generalize headHB v ep bs = K at *
 clear hR hv he hp
 go_enter Tryz.func174, Tryz.ntmps174
 go_wp2_with fail
 refine (header_most _).mono ?_
 rintro r w1 ⟨rfl, hb1⟩
 go_wp2_with fail
 refine (HN.out w1).mono ?_
 rintro r w2 ⟨rfl, hp2, hb2⟩
 have hbox := ((Blk.new w 211 #[.int .i64 v, .int .u64 ep, .int .u64 bs]).later hb1).later hb2
 have c0 : w2.cell? ⟨w.heap.size, 0, none⟩ = some (.int .i64 v) := hbox.cell 0
 have c1 : w2.cell? ⟨w.heap.size, 1, none⟩ = some (.int .u64 ep) := hbox.cell 1
 have c2 : w2.cell? ⟨w.heap.size, 2, none⟩ = some (.int .u64 bs) := hbox.cell 2
 have hbw2 : Below w.heap.size w w2 := below_then hb2 (by (repeat first | with_reducible (first | exact zR | assumption | apply zA | apply zS | apply zD | apply zN) | refine zT (by with_reducible assumption) ?_ | omega | simp <;> omega))
 have hz1 : w.heap.size < w1.heap.size := by have := hb1.size; simp at this; omega
 have HQ := hid (HP.out w2 _ hp2)
 clear hbox hp2
 go_wp2_with fail
 refine HQ.out.mono ?_
 rintro r w3 ⟨rfl, hs3⟩
 have K3 : Hid (PenOk w2 w1.heap.size 27 K w3) := hid hs3
 clear hs3 HQ
 go_wp2_with fail
 obtain ⟨a7, b7, p7, k7, _⟩ := K3.out.at
 refine (pen_bytes_own w3 p7).mono ?_
 rintro r w8 ⟨x, rfl, hr, hb8⟩
 have hbw := K3.out.below hbw2 (by omega)
 have HR := hid hr
 clear hr k7 p7
 go_wp2
 go_ret2
 exact ⟨_, rfl, HR.out.low hbw.size, below_then hb8 hbw⟩
theorem frame_size (n : Nat) (hn : n ≤ 100000000000000) (w : World) :
  Calls Tryz.prog 259 #[.int .i64 n] w fun r w' => r = .returned (.int .i64 ((varB n).length + n + 4 : Nat)) ∧ Below w.heap.size w w' := by
 have HS := hid (blob_size n hn w)
 have hl := varB_len n
 generalize (varB n).length = k at *
 go_enter Tryz.func259, Tryz.ntmps259
 go_wp2_with fail
 refine HS.out.mono ?_
 rintro r w1 ⟨rfl, hb1⟩
 go_wp2
 go_ret
 exact ⟨by first | rfl | simp, hb1⟩
set_option maxRecDepth 100000 in
set_option maxHeartbeats 1600000 in
theorem frame_put (w : World) {g base most : Nat} {J : List UInt8} {a : Option Addr} {c : Nat} (h : PenAt w g base most J a c) (D : List UInt8) (ad : Option Addr) (nd cd : Nat)
  (hD : rBytes.r (fun q => q < w.heap.size ∧ ¬ PenF g a q) w [.slice ad nd cd] D) (hm : D.length ≤ 2097152) (hfit : J.length + (frameB D).length ≤ most) (hlen : J.length + (frameB D).length ≤ 100000000000000) :
  Calls Tryz.prog 260 #[.pointer (some ⟨g, 0, none⟩), .slice ad nd cd] w fun r w' => r = .returned (.tuple #[]) ∧ PenStep w g base most (J ++ frameB D) a w' := by
 obtain ⟨rfl, _, _, _⟩ := sl_len hD
 rw [frameB_len] at hfit hlen
 have d1 : decide ((2097152 : Int) < (D.length : Int)) = false := decide_eq_false (by omega)
 have HB := hid (blob_put w h D ad _ cd hD (by omega) (by omega))
 have HC := hid (fun (W : World) h => crc_sum D ad D.length cd W h)
 have HL := crcSum_lt D
 have hb : Hid (frameB D = blobB D ++ fixedB 4 (crcSum D)) := hid rfl
 have HD := hid hD
 generalize frameB D = K at *
 generalize crcSum D = s at *
 generalize blobB D = E at *
 clear h hD
 go_enter Tryz.func260, Tryz.ntmps260
 go_wp2_with fail
 refine HB.out.mono ?_
 rintro r w3 ⟨rfl, a3, c3, p3, t3, h3⟩
 have hs3 := t3.size
 have HD3 := hid (rBytes.keep HD.out fun q hq => t3.block q hq.1 hq.2)
 have HST := hid (fun (J' : List UInt8) (W : World) (k : PenStep w3 g base most J' a3 W) => PenStep.trans (J := J ++ E) t3 h3 k)
 have P3 := hid p3
 clear p3 t3 h3
 go_wp2_with fail
 refine (HC.out w3 (rBytes.mono HD3.out fun q hq => by have := hq.1; omega)).mono ?_
 rintro r w4 ⟨rfl, hb4⟩
 have e1 : (s : Int) % 18446744073709551616 = s := by omega
 go_wp2_with fail
 refine (pen_wfixed w4 (P3.out.later hb4) s (by omega) 4 (by omega) (by simp; omega) (by simp; omega)).mono ?_
 rintro r w5 ⟨rfl, hs5⟩
 have hst := HST.out _ _ (PenStep.later hb4 hs5)
 rw [List.append_assoc, ← hb.out] at hst
 have HST2 := hid hst
 clear hst hs5
 go_wp2
 first | go_end0 | refine bodyPost_ret (results_none rfl _ _ _) rfl ?_
 exact ⟨rfl, HST2.out⟩
set_option maxRecDepth 100000 in
set_option maxHeartbeats 1600000 in
theorem frame_bytes (w : World) (D : List UInt8) (ad : Option Addr) (nd cd : Nat) (hD : rBytes.r (· < w.heap.size) w [.slice ad nd cd] D) (hm : D.length ≤ 2097152) :
  Calls Tryz.prog 224 #[.slice ad nd cd] w fun r w' => ∃ x, r = .returned (.tuple #[x, .int .i64 0]) ∧ OwnB w' w.heap.size x (frameB D) ∧ Below w.heap.size w w' := by
 obtain ⟨rfl, _, _, _⟩ := sl_len hD
 have HS := hid (frame_size D.length (by omega) w)
 have hvl := varB_len D.length
 have hl : (frameB D).length = (varB D.length).length + D.length + 4 := by rw [frameB_len, blobB_len]
 have HN := hid (fun W : World => pen_new W ((varB D.length).length + D.length + 4) (by omega))
 have HP := hid (fun (W : World) (g : Nat) (h : PenAt W g g ((varB D.length).length + D.length + 4) [] none 0) (h1 : rBytes.r (fun q => q < W.heap.size ∧ ¬ PenF g none q) W [.slice ad D.length cd] D) => frame_put W h D ad _ cd h1 hm (by simp; omega) (by simp; omega))
 have HD := hid hD
 generalize frameB D = K at *
 generalize (varB D.length).length + D.length + 4 = M at *
 clear hD
 go_enter Tryz.func224, Tryz.ntmps224
 go_wp2_with fail
 refine HS.out.mono ?_
 rintro r w1 ⟨rfl, hb1⟩
 go_wp2_with fail
 refine (HN.out w1).mono ?_
 rintro r w2 ⟨rfl, hp2, hb2⟩
 have hbw2 : Below w.heap.size w w2 := below_then hb2 hb1
 have hz1 := hb1.size
 have hz2 := hb2.size
 have HQ := hid (HP.out w2 _ hp2 (rBytes.mono (rBytes.keep HD.out fun q hq => hbw2.block q hq) fun q hq => ⟨by omega, by rw [penF_is]; rintro (e | e); omega; cases e⟩))
 clear hp2
 go_wp2_with fail
 refine HQ.out.mono ?_
 rintro r w3 ⟨rfl, hs3⟩
 have K3 : Hid (PenOk w2 w1.heap.size M K w3) := hid hs3
 clear hs3 HQ
 go_wp2_with fail
 obtain ⟨a7, b7, p7, k7, _⟩ := K3.out.at
 refine (pen_bytes_own w3 p7).mono ?_
 rintro r w8 ⟨x, rfl, hr, hb8⟩
 have hbw := K3.out.below hbw2 (by omega)
 have HR := hid hr
 clear hr k7 p7
 go_wp2
 go_ret2
 exact ⟨_, rfl, HR.out.low hbw.size, below_then hb8 hbw⟩
end Go.Proofs.YtkipiefcnjfdjaaGreat
