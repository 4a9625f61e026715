/- The tokens of a text, by the program: the walk. -/
import Derived.Test.YtkipiefcnjfdjaaGreatPrL
namespace Go.Proofs.YtkipiefcnjfdjaaGreat
open Go.RowKit Go.Bs Go.Maps
set_option linter.unusedVariables false
set_option linter.unusedSimpArgs false

set_option maxRecDepth 100000 in
set_option maxHeartbeats 3200000 in
theorem press_tokens (w : World) (b : List UInt8) (a : Option Addr) (n c : Nat) (hl : rBytes.r (· < w.heap.size) w [.slice a n c] b) (hlen : b.length ≤ 1048576) :
    Calls Tryz.prog 245 #[.slice a n c] w (TokPost w (toksR b)) := by
  obtain ⟨rfl, hm, _, _⟩ := sl_len hl
  obtain ⟨j0, hj0, hy0, hy1, hy2⟩ := info_parts infoTok
  have HL := hid hl; clear hl
  have d1 : decide ((1048576 : Int) < (b.length : Int)) = false := by simp; omega
  go_enter Tryz.func245, Tryz.ntmps245
  go_wp2_with fail
  refine (seek_new _ b _ _ _ (lift HL.out (by (repeat (first | exact Below.refl _ _ | assumption | (refine below_alloc ?_ _) | (refine Below.setCell ?_ (by first | omega | (simp; done) | (simp; omega)) _) | (refine Below.drew ?_) | (refine below_drewN ?_ _) | (refine below_then (by assumption) ?_))))) hlen).mono ?_
  rintro r w1 ⟨gs, g, mb, base, sa, sc, ab, cb, rfl, hsk, hb1, q1, q2, q3, q4⟩
  have hz1 : w.heap.size + 3 ≤ w1.heap.size := by have := hb1.size; simpa using this
  simp only [World.size_alloc] at q1 q2 q3 q4
  have hmlt : mb < w1.heap.size := by obtain ⟨D, hD, _⟩ := hsk.ch.map; exact hD.lt
  have hat0 : TokAt w w1 (w.heap.size + 3) w1.heap.size gs g mb base b sa sc ab cb a c 0 0 0 none 0 none 0 [] [] := by
    refine ⟨Nat.zero_le _, Nat.le_refl _, Nat.le_refl _, Blk.later (by (repeat (first | assumption | exact Blk.newAt _ _ _ (by first | (simp; done) | (simp; omega)) | refine Blk.alloc ?_ _ | refine Blk.drew ?_ | refine Blk.drewN ?_ _ | refine Blk.far ?_ (by first | (simp; done) | (simp; omega)) _))) hb1, Blk.later (by (repeat (first | assumption | exact Blk.newAt _ _ _ (by first | (simp; done) | (simp; omega)) | refine Blk.alloc ?_ _ | refine Blk.drew ?_ | refine Blk.drewN ?_ _ | refine Blk.far ?_ (by first | (simp; done) | (simp; omega)) _))) hb1, Blk.later (by (repeat (first | assumption | exact Blk.newAt _ _ _ (by first | (simp; done) | (simp; omega)) | refine Blk.alloc ?_ _ | refine Blk.drew ?_ | refine Blk.drewN ?_ _ | refine Blk.far ?_ (by first | (simp; done) | (simp; omega)) _))) hb1, OwnElsF.nil, ?_, fun q hq => by simp [Value.ownBlock] at hq, Nat.zero_le _, ?_, by (repeat (first | exact Below.refl _ _ | assumption | (refine below_alloc ?_ _) | (refine Below.setCell ?_ (by first | omega | (simp; done) | (simp; omega)) _) | (refine Below.drew ?_) | (refine below_drewN ?_ _) | (refine below_then (by assumption) ?_))), rfl, ⟨by omega, hsk.blk.choose_spec.lt, by omega, hsk.ch.blk.lt, by omega, hmlt, by omega⟩⟩
    · simpa using hsk
    · rfl
  have H0 := hid hat0
  clear hat0 hsk q1 q2 q3 q4 hmlt
  generalize hN1 : w1.heap.size = N1 at *
  have HN1 := hid hN1; clear hN1
  go_wp2_with fail
  go_loopw [8] (fun i wr => ∃ (p i0 nn : Nat) (av : Option Addr) (cv : Nat) (ap : Option Addr) (cp : Nat) (L : List Tok) (cells : List (List Value)), i = .int .i64 p ∧ Hid (TokAt w wr (w.heap.size + 3) N1 gs g mb base b sa sc ab cb a c p i0 nn av cv ap cp L cells)) (fun i _ => b.length - (intOf i).toNat)
  case atStart => exact ⟨0, 0, 0, none, 0, none, 0, [], [], rfl, H0⟩
  case round =>
    obtain ⟨p, i, nn, av, cv, ap, cp, L, cells, rfl, hT⟩ := hrel
    clear H0
    have hpb := hT.out.pb
    have hip := hT.out.ip
    have cb0 : wr.cell? ⟨w.heap.size, 0, none⟩ = some (.slice a b.length c) := hT.out.bb.cell 0
    by_cases hlt : p < b.length
    · have hB := hid (seek_best wr hT.out.sk hT.out.np hlt)
      have hbr := bestR_room b p
      have htn := hid (fun h => toksA_none (b := b) (p := p) (i := i) hlt h)
      have hts := hid (fun h => toksA_some (b := b) (p := p) (i := i) hlt h)
      have hfc := hid (bestR_facts b p)
      have dlt : decide ((p : Int) < (b.length : Int)) = true := by simp; omega
      generalize hbb : bestR b p = bb at *
      obtain ⟨o, m⟩ := bb
      have HBB := hid hbb; clear hbb
      simp only at hbr
      go_wp2_with fail
      refine hB.out.mono ?_
      rintro r w2 ⟨hr, hst⟩
      rw [HBB.out] at hr
      subst hr
      obtain ⟨ap2, cp2, hT2⟩ := hT.out.best hst (Nat.le_refl _)
      have HT2 := hid hT2; clear hst hT2
      by_cases hm0 : m = 0
      · have e1 : ((m : Int) == 0) = true := by simp; omega
        have HT3 := hid (show TokAt w w2 (w.heap.size + 3) N1 gs g mb base b sa sc ab cb a c (p + 1) i p av cv ap2 cp2 L cells from { HT2.out with pb := by omega, ip := by omega, np := by omega, len := by have := HT2.out.len; omega, toks := by rw [← htn.out hm0]; exact HT2.out.toks })
        clear hm0
        go_wp2_with fail
        go_roundw
        case rel => exact ⟨p + 1, i, p, av, cv, ap2, cp2, L, cells, by go_num, HT3⟩
        case measure => simp [intOf]; omega
      · have e1 : ((m : Int) == 0) = false := by simp; omega
        have hm4 : 4 ≤ m ∧ o ≤ p := by
          rcases hfc.out with h | ⟨o', m', h, h1, h2, h3, _⟩
          · simp only [Prod.mk.injEq] at h; omega
          · simp only [Prod.mk.injEq] at h
            unfold reach at h2
            omega
        have htop := HT2.out.top
        have hn0 := HT2.out.n1
        have hav := fun q (hq : (Value.slice av L.length cv).ownBlock = some q) => HT2.out.own.1.lt q hq
        have hRun := press_run w2 (to := p) HT2.out.bf HT2.out.bo HT2.out.bb (rBytes.mono (rBytes.keep HL.out fun q hq => HT2.out.below.block q hq) fun q hq => Nat.lt_of_lt_of_le hq HT2.out.below.size) HT2.out.own (fun q hq => hq.2.1) (fun hq => by have := hq.1; omega) (fun e => by have := (hav _ e).1; omega) ⟨by omega, by omega, fun e => by have := (hav _ e).1; omega, fun e => by have := (hav _ e).1; omega⟩ (by omega) hlen (by have := HT2.out.len; omega) htop
        have HRun := hid hRun; clear hRun
        have HM0 := hid hm0; clear hm0
        go_wp2_with fail
        refine HRun.out.mono ?_
        rintro r w3 ⟨rfl, av3, cv3, cells3, hbo3, hown3, ht3, hat3⟩
        have hLL : (L ++ litT b i p).length ≤ p + 1 := by
          have h1 := HT2.out.len
          unfold litT
          split <;> simp <;> omega
        have HHBO := hid hbo3
        have o1 : w3.cell? ⟨w.heap.size + 1, 0, none⟩ = some (.slice av3 (L ++ litT b i p).length cv3) := hbo3.cell 0
        have o2 := hbo3.free 0
        have l1 := hbo3.lt
        have HB3 := hid (HT2.out.bf.tch ht3 (fun e => by
          rcases e with e | e
          · omega
          · have := (hav _ e).1; omega))
        have l2 := HB3.out.lt
        have hz3 : N1 ≤ w3.heap.size := Nat.le_trans htop ht3.size
        have hav3 := fun q (hq : (Value.slice av3 (L ++ litT b i p).length cv3).ownBlock = some q) => hown3.1.lt q hq
        generalize hL3 : L ++ litT b i p = L3 at *
        have HL3 := hid hL3; have HO3 := hid hown3; have HT3 := hid ht3; have HAT3 := hid hat3; have HAV3 := hid hav3; have HAV := hid hav
        clear hL3 hown3 ht3 hat3 hbo3 hav3 hav
        have f3 := HB3.out.free 0
        go_wp2_with (at_builtin; go_loud (refine wpList_append_src rfl _ _ _ rfl N1 253 j0 (.agg #[.slice none 0 0, .int .i64 0, .int .i64 0]) 3 40 Tryz.underlying240 hj0 hy0 hy1 hy2 rfl (by decide) (.slice av3 L3.length cv3) L3.length cells3.flatten rfl (own_below HO3.out.1 (by (repeat (first | exact Below.refl _ _ | assumption | (refine below_alloc ?_ _) | (refine Below.setCell ?_ (by first | omega | (simp; done) | (simp; omega)) _) | (refine Below.drew ?_) | (refine below_drewN ?_ _) | (refine below_then (by assumption) ?_))))) (some ⟨w3.heap.size, 0, none⟩) 1 1 [.slice none 0 0, .int .i64 (o : Int), .int .i64 (m : Int)] rfl (src_new1 w3 253 _ rfl rfl rfl) (by intro u hu; simp at hu; rcases hu with rfl | rfl | rfl <;> rfl) (by simp only [maxLen]; omega) (by omega) (by simp; omega) ?_; intro v8 w8 hown8 hgrow8 hat8; obtain ⟨a8, c8, rfl⟩ := own_form hown8; have G := fun b' (hb : b' < w3.heap.size) (hne : (Value.slice av3 L3.length cv3).ownBlock ≠ some b') => (hgrow8.block b' (by simp; omega) (fun e => hne e.symm)).trans (Below.heap_alloc w3 _ b' hb); have n1 : (Value.slice av3 L3.length cv3).ownBlock ≠ some (w.heap.size + 1) := fun e => by { have := (HAV3.out _ e).1; omega }; have n2 : (Value.slice av3 L3.length cv3).ownBlock ≠ some (w.heap.size + 2) := fun e => by { have := (HAV3.out _ e).1; omega }; have m1 := (World.cell?_of_block (a := ⟨w.heap.size + 1, 0, none⟩) (G _ l1 n1)).trans o1; have m2 := (World.frozen?_of_block (a := ⟨w.heap.size + 1, 0, none⟩) (G _ l1 n1)).trans o2; have m3 : w.heap.size + 1 < w8.heap.size := Nat.lt_of_lt_of_le l1 (Nat.le_trans (by simp) hgrow8.size); have m4 := (World.frozen?_of_block (a := ⟨w.heap.size + 2, 0, none⟩) (G _ l2 n2)).trans f3; have m6 := (World.cell?_of_block (a := ⟨w.heap.size + 2, 0, none⟩) (G _ l2 n2)).trans (HB3.out.cell 0); have m5 : w.heap.size + 2 < w8.heap.size := Nat.lt_of_lt_of_le l2 (Nat.le_trans (by simp) hgrow8.size); have HG8 := hid hgrow8; have HO8 := hid hown8; have HA8 := hid hat8; have HGG := hid G; clear hgrow8 hown8 hat8 G))
        have hOF := (HO3.out.keep (w' := w3.alloc (.cells #[.slice none 0 0, .int .i64 (o : Int), .int .i64 (m : Int)] 253)) (fun q hq => Below.heap_alloc w3 _ q (by
          have hs3 := HT3.out.size
          rcases hq with h | h
          · omega
          · omega)) (fun q hq => Below.heap_alloc w3 _ q (HAV3.out q hq).2))
        have hx : rTok.r (fun q => ((N1 ≤ q ∧ q < w2.heap.size ∧ (Value.slice ap2 p cp2).ownBlock ≠ some q) ∨ (w2.heap.size ≤ q ∧ q < w3.heap.size)) ∧ (Value.slice av3 L3.length cv3).ownBlock ≠ some q) (w3.alloc (.cells #[.slice none 0 0, .int .i64 (o : Int), .int .i64 (m : Int)] 253)) [.slice none 0 0, .int .i64 (o : Int), .int .i64 (m : Int)] ⟨[], o, m⟩ :=
          tok_mk (x := ⟨[], o, m⟩) (rSl_mk rfl (Nat.le_refl _) (Nat.zero_le _) (.inl rfl)) (by simp; omega) (by simp; omega)
        have OPU := OwnElsF.push hOF (fun q hq => by
          have hs3 := HT3.out.size
          rcases hq with h | h
          · simp; omega
          · simp; omega) rfl hx HO8.out HG8.out HA8.out
        have hs8 := HG8.out.size
        simp only [World.size_alloc] at hs8
        have hs3 := HT3.out.size
        have hnew8 : ∀ q, q < N1 → (Value.slice a8 (L3.length + 1) c8).ownBlock ≠ some q := fun q hq e => by
          have := (HO8.out.lt q e).1; omega
        have hll : (L3 ++ [(⟨[], o, m⟩ : Tok)]).length = L3.length + 1 := by simp
        have hsz : ((w8.setCell ⟨w.heap.size + 1, 0, none⟩ (.slice a8 (L3.length + 1) c8)).setCell ⟨w.heap.size + 2, 0, none⟩ (.int .i64 ((p : Int) + (m : Int)))).heap.size = w8.heap.size := by simp [World.setCell]
        have keep9 : ∀ q, q ≠ w.heap.size + 1 → q ≠ w.heap.size + 2 → ((w8.setCell ⟨w.heap.size + 1, 0, none⟩ (.slice a8 (L3.length + 1) c8)).setCell ⟨w.heap.size + 2, 0, none⟩ (.int .i64 ((p : Int) + (m : Int)))).heap[q]? = w8.heap[q]? := fun q k1 k2 => (Below.heap_setCell _ _ _ _ k2).trans (Below.heap_setCell _ _ _ _ k1)
        have OP9 := (OPU.keep (w' := (w8.setCell ⟨w.heap.size + 1, 0, none⟩ (.slice a8 (L3.length + 1) c8)).setCell ⟨w.heap.size + 2, 0, none⟩ (.int .i64 ((p : Int) + (m : Int)))) (fun q hq => keep9 q (by rcases hq with h | h <;> omega) (by rcases hq with h | h <;> omega)) (fun q hq => keep9 q (fun e => hnew8 q (by omega) hq) (fun e => hnew8 q (by omega) hq))).mono (F' := fun q => (N1 ≤ q ∧ q < w2.heap.size ∧ (Value.slice ap2 p cp2).ownBlock ≠ some q) ∨ (w2.heap.size ≤ q ∧ q < ((w8.setCell ⟨w.heap.size + 1, 0, none⟩ (.slice a8 (L3.length + 1) c8)).setCell ⟨w.heap.size + 2, 0, none⟩ (.int .i64 ((p : Int) + (m : Int)))).heap.size)) (fun q hq => by
          rw [hsz]
          rcases hq with h | h
          · exact .inl h
          · exact .inr ⟨h.1, by omega⟩)
        have hbo8 : Blk w8 (w.heap.size + 1) 240 #[.slice av3 L3.length cv3] := (HGG.out _ l1 n1).trans HHBO.out
        have hbf8 : Blk w8 (w.heap.size + 2) 3 #[.int .i64 (i : Int)] := (HGG.out _ l2 n2).trans HB3.out
        have hfin : TokAt w ((w8.setCell ⟨w.heap.size + 1, 0, none⟩ (.slice a8 (L3.length + 1) c8)).setCell ⟨w.heap.size + 2, 0, none⟩ (.int .i64 ((p : Int) + (m : Int)))) (w.heap.size + 3) N1 gs g mb base b sa sc ab cb a c (p + m) (p + m) p a8 c8 ap2 cp2 (L3 ++ [⟨[], o, m⟩]) (cells3 ++ [[.slice none 0 0, .int .i64 (o : Int), .int .i64 (m : Int)]]) := by
          refine HT2.out.out (by omega) (Nat.le_refl _) (by omega) ?_ ?_ (by rw [hll]; exact OP9) ?_ ?_ (by rw [hll]; omega) ?_
          · exact (hbf8.far (by dsimp only; omega) _).set 0 _
          · rw [hll]; exact (hbo8.set 0 _).far (by dsimp only; omega) _
          · refine Tch.setCell (Tch.setCell ⟨HG8.out.os.trans HT3.out.os, HG8.out.tape.trans HT3.out.tape, HG8.out.output.trans HT3.out.output, by omega, fun q hq hf => ?_⟩ (fun _ => .inl rfl) _) (fun _ => .inr (.inl rfl)) _
            have h3 : (Value.slice av3 L3.length cv3).ownBlock ≠ some q := fun e => by
              rcases HAT3.out with h | ⟨q', hq', hlt'⟩
              · rw [h] at e; exact hf (.inr (.inr e))
              · rw [hq'] at e; have := Option.some.inj e; omega
            exact (HGG.out q (by omega) h3).trans (HT3.out.block q hq (fun e => by
              rcases e with e | e
              · exact hf (.inl e)
              · exact hf (.inr (.inr e))))
          · rw [hll]
            rcases HA8.out with h | h
            · rcases HAT3.out with h' | ⟨q', hq', hlt'⟩
              · exact .inl (h.trans h')
              · exact .inr ⟨q', h.trans hq', hlt'⟩
            · exact .inr ⟨_, h, by simp; omega⟩
          · have e1 := hts.out HM0.out
            have e2 := HT2.out.toks
            rw [e1] at e2
            rw [← e2, ← HL3.out]
            simp
        have HF := hid hfin
        clear hfin OP9 OPU hx hOF keep9 hsz hbo8 hbf8 hnew8 hll
        go_roundw
        case rel => exact ⟨p + m, p + m, p, a8, c8, ap2, cp2, _, _, by go_num, HF⟩
        case measure => simp [intOf]; omega
    · have hpe : p = b.length := by omega
      subst hpe
      have htop := hT.out.top
      have hn0 := hT.out.n1
      have hav := fun q (hq : (Value.slice av L.length cv).ownBlock = some q) => hT.out.own.1.lt q hq
      have hRun := press_run wr (to := b.length) hT.out.bf hT.out.bo hT.out.bb (rBytes.mono (rBytes.keep HL.out fun q hq => hT.out.below.block q hq) fun q hq => Nat.lt_of_lt_of_le hq hT.out.below.size) hT.out.own (fun q hq => hq.2.1) (fun hq => by have := hq.1; omega) (fun e => by have := (hav _ e).1; omega) ⟨by omega, by omega, fun e => by have := (hav _ e).1; omega, fun e => by have := (hav _ e).1; omega⟩ (Nat.le_refl _) hlen (by have := hT.out.len; omega) htop
      have htk := hT.out.toks
      rw [toksA_end (Nat.le_refl _)] at htk
      rw [htk] at hRun
      have HRun := hid hRun; clear hRun htk
      have dlt : decide ((b.length : Int) < (b.length : Int)) = false := by simp
      go_wp2_with fail
      refine HRun.out.mono ?_
      rintro r w3 ⟨rfl, av3, cv3, cells3, hbo3, hown3, ht3, hat3⟩
      have o1 : w3.cell? ⟨w.heap.size + 1, 0, none⟩ = some (.slice av3 (toksR b).length cv3) := hbo3.cell 0
      have hbel : Below w.heap.size w w3 := hT.out.below.trans (ht3.to_below hT.out.below.size fun q hq e => by
        rcases e with e | e
        · omega
        · have := (hav _ e).1; omega)
      have hsl := hown3.slice
      have hlt3 := hown3.1.lt
      have hs3 := ht3.size
      have hpost : TokPost w (toksR b) (.returned (.tuple #[.slice av3 (toksR b).length cv3, .int .i64 0])) w3 := ⟨_, rfl, (rSl 3 rTok).mono hsl fun q hq => by
        rcases hq with (h | h) | h
        · exact ⟨by omega, by omega⟩
        · exact ⟨by omega, h.2⟩
        · have := hlt3 q h; exact ⟨by omega, this.2⟩, hbel⟩
      have HP := hid hpost
      clear hpost hsl hlt3 hbel hown3 ht3 hat3 hbo3
      go_wp2
      go_ret2
      exact HP.out
end Go.Proofs.YtkipiefcnjfdjaaGreat
