/- The tokens of a text, by the program. -/
import Derived.Test.YtkipiefcnjfdjaaGreatPrK
namespace Go.Proofs.YtkipiefcnjfdjaaGreat
open Go.RowKit Go.Bs Go.Maps
set_option linter.unusedVariables false
set_option linter.unusedSimpArgs false

/-- Between two rounds: p bytes are done, a run began at i, the tokens L are out. -/
structure TokAt (w wr : World) (N0 N1 gs g mb base : Nat) (b : List UInt8) (sa : Option Addr) (sc : Nat) (ab : Option Addr) (cb : Nat) (a : Option Addr) (c : Nat) (p i nn : Nat) (av : Option Addr) (cv : Nat) (ap : Option Addr) (cp : Nat) (L : List Tok) (cells : List (List Value)) : Prop where
  pb : p ≤ b.length
  ip : i ≤ p
  np : nn ≤ p
  bb : Blk wr w.heap.size 28 #[.slice a b.length c]
  bo : Blk wr (w.heap.size + 1) 240 #[.slice av L.length cv]
  bf : Blk wr (w.heap.size + 2) 3 #[.int .i64 (i : Int)]
  own : OwnElsF (fun q => N1 ≤ q ∧ q < wr.heap.size ∧ (Value.slice ap nn cp).ownBlock ≠ some q) rTok N1 253 3 wr (.slice av L.length cv) L cells
  sk : SkAt wr gs g mb base N0 N1 b nn sa sc ab cb ap cp
  apart : ∀ q, (Value.slice av L.length cv).ownBlock = some q → (Value.slice ap nn cp).ownBlock ≠ some q
  len : L.length ≤ p
  toks : L ++ toksA b p i = toksR b
  below : Below w.heap.size w wr
  n0 : N0 = w.heap.size + 3
  n1 : N0 ≤ gs ∧ gs < N1 ∧ N0 ≤ g ∧ g < N1 ∧ N0 ≤ mb ∧ mb < N1 ∧ N0 ≤ base

theorem TokAt.top {w wr : World} {N0 N1 gs g mb base : Nat} {b : List UInt8} {sa : Option Addr} {sc : Nat} {ab : Option Addr} {cb : Nat} {a : Option Addr} {c : Nat} {p i nn : Nat} {av : Option Addr} {cv : Nat} {ap : Option Addr} {cp : Nat} {L : List Tok} {cells : List (List Value)}
    (h : TokAt w wr N0 N1 gs g mb base b sa sc ab cb a c p i nn av cv ap cp L cells) : N1 ≤ wr.heap.size := h.sk.top
/-- Behind a Best. -/
theorem TokAt.best {w wr w1 : World} {N0 N1 gs g mb base : Nat} {b : List UInt8} {sa : Option Addr} {sc : Nat} {ab : Option Addr} {cb : Nat} {a : Option Addr} {c : Nat} {p i nn m : Nat} {av : Option Addr} {cv : Nat} {ap : Option Addr} {cp : Nat} {L : List Tok} {cells : List (List Value)}
    (h : TokAt w wr N0 N1 gs g mb base b sa sc ab cb a c p i nn av cv ap cp L cells) (hs : SkStep wr gs g mb base N0 N1 b nn m sa sc ab cb ap cp w1) (hm : m ≤ p) :
    ∃ ap' cp', TokAt w w1 N0 N1 gs g mb base b sa sc ab cb a c p i m av cv ap' cp' L cells := by
  obtain ⟨ap', cp', h1, h2, h3⟩ := hs
  have htop := h.top
  have hn0 := h.n0
  obtain ⟨k1, k2, k3, k4, k5, k6, k7⟩ := h.n1
  have hsz := h2.size
  have hapb : ∀ q, (Value.slice ap nn cp).ownBlock = some q → N0 ≤ q ∧ q < wr.heap.size := fun q hq => by
    have := h.sk.ch.prev.lt q hq
    exact ⟨by omega, this.2⟩
  have hlow : ∀ q, q < N0 → ¬ (q = gs ∨ q = g ∨ q = mb ∨ (Value.slice ap nn cp).ownBlock = some q) := fun q hq e => by
    rcases e with e | e | e | e
    · omega
    · omega
    · omega
    · have := (hapb q e).1; omega
  have hav := fun q (hq : (Value.slice av L.length cv).ownBlock = some q) => h.own.1.lt q hq
  have hnew : ∀ q, q < wr.heap.size → (Value.slice ap nn cp).ownBlock ≠ some q → (Value.slice ap' m cp').ownBlock ≠ some q := fun q hq hne e => by
    rcases h3 with h3 | ⟨q', hq', hlt⟩
    · rw [h3] at e; exact hne e
    · rw [hq'] at e; have := Option.some.inj e; omega
  refine ⟨ap', cp', ⟨h.pb, h.ip, hm, h.bb.tch h2 (hlow _ (by omega)), h.bo.tch h2 (hlow _ (by omega)), h.bf.tch h2 (hlow _ (by omega)), ?_, h1, fun q hq => hnew q (hav q hq).2 (h.apart q hq), h.len, h.toks, h.below.trans (h2.to_below (by omega) fun q hq e => ?_), h.n0, h.n1⟩⟩
  · refine (h.own.keep (w' := w1) (fun q hq => h2.block q hq.2.1 (fun e => ?_)) (fun q hq => h2.block q (hav q hq).2 (fun e => ?_))).mono fun q hq => ⟨hq.1, by omega, hnew q hq.2.1 hq.2.2⟩
    · rcases e with e | e | e | e
      · omega
      · omega
      · omega
      · exact hq.2.2 e
    · have := (hav q hq).1
      rcases e with e | e | e | e
      · omega
      · omega
      · omega
      · exact h.apart q hq e
  · by_cases hq0 : q < N0
    · exact absurd e (hlow q hq0)
    · omega
/-- Behind a run, or a token that went out; whatever has become of the run's beginning. -/
theorem TokAt.out {w wr w1 : World} {N0 N1 gs g mb base : Nat} {b : List UInt8} {sa : Option Addr} {sc : Nat} {ab : Option Addr} {cb : Nat} {a : Option Addr} {c : Nat} {p i nn : Nat} {av : Option Addr} {cv : Nat} {ap : Option Addr} {cp : Nat} {L : List Tok} {cells : List (List Value)}
    (h : TokAt w wr N0 N1 gs g mb base b sa sc ab cb a c p i nn av cv ap cp L cells) {p' i' : Nat} {av' : Option Addr} {cv' : Nat} {L' : List Tok} {cells' : List (List Value)} (hp : p' ≤ b.length) (hi : i' ≤ p') (hn : nn ≤ p')
    (hf : Blk w1 (w.heap.size + 2) 3 #[.int .i64 (i' : Int)]) (ho : Blk w1 (w.heap.size + 1) 240 #[.slice av' L'.length cv'])
    (hown : OwnElsF (fun q => (N1 ≤ q ∧ q < wr.heap.size ∧ (Value.slice ap nn cp).ownBlock ≠ some q) ∨ (wr.heap.size ≤ q ∧ q < w1.heap.size)) rTok N1 253 3 w1 (.slice av' L'.length cv') L' cells')
    (ht : Tch (fun q => q = w.heap.size + 1 ∨ q = w.heap.size + 2 ∨ (Value.slice av L.length cv).ownBlock = some q) wr w1) (hat : (Value.slice av' L'.length cv').ownBlock = (Value.slice av L.length cv).ownBlock ∨ ∃ q, (Value.slice av' L'.length cv').ownBlock = some q ∧ wr.heap.size ≤ q)
    (hlen : L'.length ≤ p') (htok : L' ++ toksA b p' i' = toksR b) : TokAt w w1 N0 N1 gs g mb base b sa sc ab cb a c p' i' nn av' cv' ap cp L' cells' := by
  have htop := h.top
  have hn0 := h.n0
  obtain ⟨k1, k2, k3, k4, k5, k6, k7⟩ := h.n1
  have hsz := ht.size
  have hapb : ∀ q, (Value.slice ap nn cp).ownBlock = some q → N0 ≤ q ∧ q < wr.heap.size := fun q hq => by
    have := h.sk.ch.prev.lt q hq
    exact ⟨by omega, this.2⟩
  have hav := fun q (hq : (Value.slice av L.length cv).ownBlock = some q) => h.own.1.lt q hq
  have hmid : ∀ q, N0 ≤ q → q < N1 → ¬ (q = w.heap.size + 1 ∨ q = w.heap.size + 2 ∨ (Value.slice av L.length cv).ownBlock = some q) := fun q h1 h2 e => by
    rcases e with e | e | e
    · omega
    · omega
    · have := (hav q e).1; omega
  obtain ⟨t, hgs⟩ := h.sk.blk
  refine ⟨hp, hi, hn, h.bb.tch ht (fun e => ?_), ho, hf, hown.mono fun q hq => ?_, h.sk.tch ht (hmid g k3 k4) (hmid mb k5 k6) (fun q hq e => ?_) (fun q h1 h2 _ => hmid q h1 h2) ⟨t, hgs.tch ht (hmid gs k1 k2)⟩, fun q hq e => ?_, hlen, htok, h.below.trans (ht.to_below h.below.size fun q hq e => ?_), h.n0, h.n1⟩
  · rcases e with e | e | e
    · omega
    · omega
    · have := (hav _ e).1; omega
  · rcases hq with hq | hq
    · exact ⟨hq.1, by omega, hq.2.2⟩
    · exact ⟨by omega, hq.2, fun e => by have := (hapb q e).2; omega⟩
  · rcases e with e | e | e
    · have := (hapb q hq).1; omega
    · have := (hapb q hq).1; omega
    · exact h.apart q e hq
  · rcases hat with hat | ⟨q', hq', hlt⟩
    · rw [hat] at hq; exact h.apart q hq e
    · rw [hq'] at hq; have := Option.some.inj hq; have := (hapb q e).2; omega
  · rcases e with e | e | e
    · omega
    · omega
    · have := (hav q e).1; omega

def TokPost (w : World) (L : List Tok) (r : Ending) (w' : World) : Prop := ∃ v, r = .returned (.tuple #[v, .int .i64 0]) ∧ rToks.r (fun q => w.heap.size ≤ q ∧ q < w'.heap.size) w' [v] L ∧ Below w.heap.size w w'
end Go.Proofs.YtkipiefcnjfdjaaGreat
