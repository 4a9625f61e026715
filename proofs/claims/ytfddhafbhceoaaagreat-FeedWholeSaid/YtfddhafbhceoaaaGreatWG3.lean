/- Mini: Needed by feedWhole_walk, part 3: texts put together by shake.py; no condition. -/
import Derived.Test.YtfddhafbhceoaaaGreatWF16
import Derived.Deep.Cut
import Derived.RegionTactic
import Derived.BigRegion
import Derived.Lib.SlBytesConst
import Derived.Laws.BitsAllLaws
import Derived.Maps.AppendAt
import Derived.Deep.AppendLies
import Derived.ProofKit
import Derived.OpenShut
import Derived.Deep.Slices
import Derived.Lib.SmallJoins
import Derived.WalkKit
import Derived.WalkLawsBesides
import Derived.WalkSpells
import Derived.Outline
import Derived.BigQuiet
import Derived.Deep.QuietTactic
import Derived.Test.YtfddhafbhceoaaaGreatRows
import Derived.Lib.ConvBytes
import Derived.Laws.AppendOwn
import Derived.Laws.MakeOwn
import Derived.Deep.CutRange
import Derived.Laws.Bits64
import Derived.ScopeJumps
import Derived.WalkMore
import Derived.Deep.RegionLaw
import Derived.Maps.OwnOps
import Derived.Maps.Views
import Derived.Deep.RegionHeld3
import Derived.StillTail
import Derived.OrdersHeld
import Derived.Deep.RegionHeld
import Derived.Scope
import Derived.Test.YtfddhafbhceoaaaGreatProg
import Derived.Deep.WholeRow
import Derived.Test.YtfddhafbhceoaaaGreatWG2
import Derived.Test.YtfddhafbhceoaaaGreatWG1
import Derived.Deep.MidRow
import Derived.Deep.CutBlock
import Derived.Laws.EntriesVeiled
set_option linter.unusedVariables false
set_option linter.unusedSimpArgs false
set_option maxRecDepth 100000
set_option maxHeartbeats 6400000
namespace Go.Bs
theorem zCj{p:Prop}(h:p:=by rw [HNL.out]; omega):p:=h
theorem zCf{p:Prop}(h:p:=by simp [results, Tryz.results71, go_sem, q0, q1, p0, p1, lq, lp]):p:=h
theorem zB8{p:Prop}(h:p:=by (try rw [Acl]); repeat (first | rfl | rw [At _ _ _ _ (by dsimp only; omega)])):p:=h
end Go.Bs
namespace Go.Proofs.YtfddhafbhceoaaaGreat
open Go.RowKit Go.Bs Go.Maps
variable{q:Bool}{ep f k:Int}{B:List UInt8}{gc gr:Nat}{a:Option Addr}{s:Rs}{w:World}
theorem Rs.Abi{a:Int}:(s.within k f a).p=s.p:=by
 unfold Rs.within;split
 ·rfl
 ·exact Rs.NL
set_option maxHeartbeats 12800000 in
theorem Aci(W:World){vL vM:Value}{l:List Batch}{M:List AP}{fi:Nat}{T:Nat}(h:EI w gr gc B a s ep vL l vM M q (fi:Int) T W)(hB:B.length≤1000000000)(hM:Cs M=true)(hfi:fi≤s.p)(hs:s.fit B.length):
    Calls Tryz.prog 126 #[.pointer (some ⟨gr,0,none⟩)] W fun r W'=>r=.returned (.tuple #[])∧(∃fi' T',EI w gr gc B a (Kb B s fi ep M) ep vL l vM M q fi' T' W')∧W.heap.size≤W'.heap.size:=by
  have HI:=hid h;have hgc:gc<gr:=An h.inv.lt h.gl;have hp:=h.inv.rd.ok.le;obtain⟨cMs,hcM⟩:=h.ownM;obtain⟨aM,cM,rfl⟩:=AV hcM.1;have HMR:=hid (show Bw.r (·<W.heap.size) W [.slice aM M.length cM] M from Bw.mono (A8.slice (As _) ⟨cMs,hcM⟩) fun b e=>e.2);have HAT:=hid (fun (V:World) (hV:AS V gc B a s)=>Cd V hV);have HFO:=hid (fun (V:World) (hV:Below W.heap.size W V)=>MY ep M (fi:Int) ((s.p:Int)-(fi:Int)) aM _ cM V (lift HMR.out hV) hM);obtain⟨sE,hsE⟩:∃sE,sE=Kb B s fi ep M:=⟨_,rfl⟩;rw[←hsE];unfold Kb at hsE;dsimp only at hsE;generalize DE ep M (fi:Int) ((s.p:Int)-(fi:Int))=WF at*;simp only[BX.val] at HFO;generalize hF:s.frame B 2097152=F at*;obtain⟨t,D⟩:=F;have hcan:=fun h0:t.k=0=>Rs.Jk hs hF h0;have HPA:=hid (fun (V:World) (hV:EI w gr gc B a s ep vL l (.slice aM M.length cM) M q (fi:Int) T V)=>Abm V hV hB hF);have HGT:=hid (fun (V:World) (hV:AS V gc B a t)=>AK V hV);dsimp only at hsE;generalize hg:Gb D=FR at*;obtain⟨f,fk,ff⟩:=FR;dsimp only at hsE;have HSE:=hid hsE;have HFD:=hid hg;obtain⟨y0,y1,y2,y3,y4,y5,ly⟩:=Aa6 h.rb;have SK:=hid (fun (w':World) (hb:Below W.heap.size W w')=>(⟨(AM.mk _ hb).cell y0,(AM.mk _ hb).cell y1,(AM.mk _ hb).cell y3,(AM.mk _ hb).cell y5⟩:w'.cell? ⟨gr,0,none⟩=some (.pointer (some ⟨gc,0,none⟩))∧w'.cell? ⟨gr,1,none⟩=some (.int .u64 ep)∧w'.cell? ⟨gr,3,none⟩=some (.slice aM M.length cM)∧w'.cell? ⟨gr,5,none⟩=some (.int .i64 (fi:Int))));have hb1000:s.p≤1000000000:=zC;have HINF:=hid (show (Tryz.prog.info? 81).map (·.size)=some 7 by kernel_rfl);have HONE:=hid (show (#[.int .u64 WF.ep,.int .i64 WF.n,.int .i64 WF.en,.int .u64 WF.first,.int .u64 WF.fin,.int .i64 WF.at_,.int .i64 WF.size]:Array Value).all (·.oneCell')=true from Array.all_eq_true_iff_forall_mem.2 (fun u hu=>by simp at hu;rcases hu with rfl | rfl | rfl | rfl | rfl | rfl | rfl<;>rfl));have HWL:Hid (IntKind.i64.wrap ((s.p:Int)-(fi:Int))=(s.p:Int)-(fi:Int)):=hid (by rw[IntKind.wrap_i64];omega);clear hcM hM hF h hsE hg hs;go_enter Tryz.func126,Tryz.ntmps126;go_upto_region 0 with (fail);go_cut [2] from 8 to 31 (fun s2 V=>∃g2:Nat,s2=.pointer (some ⟨g2,0,none⟩)∧Hid (Blk V g2 81 #[.int .u64 WF.ep,.int .i64 WF.n,.int .i64 WF.en,.int .u64 WF.first,.int .u64 WF.fin,.int .i64 WF.at_,.int .i64 WF.size])∧W.heap.size≤g2∧Hid (EI w gr gc B a s ep vL l (.slice aM M.length cM) M q (fi:Int) T V)∧W.heap.size≤V.heap.size)
  case first=>
    refine BQ (fun w'=>w'.cell? ⟨gr,0,none⟩=some (.pointer (some ⟨gc,0,none⟩))∧w'.cell? ⟨gr,1,none⟩=some (.int .u64 ep)∧w'.cell? ⟨gr,3,none⟩=some (.slice aM M.length cM)∧w'.cell? ⟨gr,5,none⟩=some (.int .i64 (fi:Int))) _ zJ rfl zJ ⟨y0,y1,y3,y5⟩ (fun hHeld=> ?_);simp only[BD,FG];refine Aq (i:=0) (oi:=_) (v:=?_) rfl zF zF zF (fun _ _ _ h=>h) (Or.inl ⟨zR,?_⟩) zK ?_;rotate_left
    · (intro w hSw;(try dsimp only at hSw);go_simp<;>with_reducible rfl)
    (try simp only[Act.put,Aa,Ab,Ac])
    (try simp only[Ak,Ah,Af,Act.put,Aa,Ab,Ac])
    refine Aq (i:=1) (oi:=_) (v:=?_) rfl zF zF zF (fun _ _ _ h=>h) (Or.inl ⟨zR,?_⟩) zK ?_;rotate_left
    · (intro w hSw;(try dsimp only at hSw);go_simp<;>with_reducible rfl)
    (try simp only[Act.put,Aa,Ab,Ac])
    (try simp only[Ak,Ah,Af,Act.put,Aa,Ab,Ac])
    refine Aq (i:=2) (oi:=_) (v:=?_) rfl zF zF zF (fun _ _ _ h=>h) (Or.inl ⟨zR,?_⟩) zK ?_;rotate_left
    · (intro w hSw;(try dsimp only at hSw);go_simp<;>with_reducible rfl)
    (try simp only[Act.put,Aa,Ab,Ac])
    (try simp only[Ak,Ah,Af,Act.put,Aa,Ab,Ac])
    refine Aq (i:=3) (oi:=_) (v:=?_) rfl zF zF zF (fun _ _ _ h=>h) (Or.inl ⟨zR,?_⟩) zK ?_;rotate_left
    · (intro w hSw;(try dsimp only at hSw);go_simp<;>with_reducible rfl)
    (try simp only[Act.put,Aa,Ab,Ac])
    (try simp only[Ak,Ah,Af,Act.put,Aa,Ab,Ac])
    refine Aq (i:=4) (oi:=_) (v:=?_) rfl zF zF zF (fun _ _ _ h=>h) (Or.inl ⟨zR,?_⟩) zK ?_;rotate_left
    · (intro w hSw;(try dsimp only at hSw);go_simp<;>with_reducible rfl)
    (try simp only[Act.put,Aa,Ab,Ac])
    (try simp only[Ak,Ah,Af,Act.put,Aa,Ab,Ac])
    refine Aq (i:=5) (oi:=_) (v:=?_) rfl zF zF zF (fun _ _ _ h=>h) (Or.inl ⟨zR,?_⟩) zK ?_;rotate_left
    · (intro w hSw;(try dsimp only at hSw);go_simp<;>with_reducible rfl)
    (try simp only[Act.put,Aa,Ab,Ac])
    (try simp only[Ak,Ah,Af,Act.put,Aa,Ab,Ac])
    refine Aq (i:=6) (oi:=_) (v:=?_) rfl zF zF zF (fun _ _ _ h=>h) (Or.inl ⟨zR,?_⟩) zK ?_;rotate_left
    · (intro w hSw;(try dsimp only at hSw);go_simp<;>with_reducible rfl)
    (try simp only[Act.put,Aa,Ab,Ac])
    (try simp only[Ak,Ah,Af,Act.put,Aa,Ab,Ac])
    refine Aq (i:=7) (oi:=_) (v:=?_) rfl zF zF zF (fun _ _ _ h=>h) (Or.inl ⟨zR,?_⟩) zK ?_;rotate_left
    · (intro w hSw;(try dsimp only at hSw);go_simp<;>with_reducible rfl)
    (try simp only[Act.put,Aa,Ab,Ac])
    (try simp only[Ak,Ah,Af,Act.put,Aa,Ab,Ac])
    refine Aq (i:=8) (oi:=_) (v:=?_) rfl zF zF zF (fun _ _ _ h=>h) (Or.inl ⟨zR,?_⟩) zK ?_;rotate_left
    · (intro w hSw;(try dsimp only at hSw);go_simp<;>with_reducible rfl)
    (try simp only[Act.put,Aa,Ab,Ac])
    (try simp only[Ak,Ah,Af,Act.put,Aa,Ab,Ac])
    refine Aq (i:=9) (oi:=_) (v:=?_) rfl zF zF zF (fun _ _ _ h=>h) (Or.inl ⟨zR,?_⟩) zK ?_;rotate_left
    · (intro w hSw;(try dsimp only at hSw);go_simp<;>with_reducible rfl)
    (try simp only[Act.put,Aa,Ab,Ac])
    (try simp only[Ak,Ah,Af,Act.put,Aa,Ab,Ac])
    refine Aq (i:=10) (oi:=_) (v:=?_) rfl zF zF zF (fun _ _ _ h=>h) (Or.inl ⟨zR,?_⟩) zK ?_;rotate_left
    · (intro w hSw;(try dsimp only at hSw);go_simp<;>with_reducible rfl)
    (try simp only[Act.put,Aa,Ab,Ac])
    (try simp only[Ak,Ah,Af,Act.put,Aa,Ab,Ac])
    refine Aq (i:=11) (oi:=_) (v:=?_) rfl zF zF zF (fun _ _ _ h=>h) (Or.inl ⟨zR,?_⟩) zK ?_;rotate_left
    · (intro w hSw;(try dsimp only at hSw);go_simp<;>with_reducible rfl)
    (try simp only[Act.put,Aa,Ab,Ac])
    (try simp only[Ak,Ah,Af,Act.put,Aa,Ab,Ac])
    refine Aq (i:=12) (oi:=_) (v:=?_) rfl zF zF zF (fun _ _ _ h=>h) (Or.inl ⟨zR,?_⟩) zK ?_;rotate_left
    · (intro w hSw;(try dsimp only at hSw);go_simp<;>with_reducible rfl)
    (try simp only[Act.put,Aa,Ab,Ac])
    (try simp only[Ak,Ah,Af,Act.put,Aa,Ab,Ac])
    refine Aq (i:=13) (oi:=_) (v:=?_) rfl zF zF zF (fun _ _ _ h=>h) (Or.inl ⟨zR,?_⟩) zK ?_;rotate_left
    · (intro w hSw;(try dsimp only at hSw);go_simp<;>with_reducible rfl)
    (try simp only[Act.put,Aa,Ab,Ac])
    (try simp only[Ak,Ah,Af,Act.put,Aa,Ab,Ac])
    refine Aq (i:=14) (oi:=_) (v:=?_) rfl zF zF zF (fun _ _ _ h=>h) (Or.inl ⟨zR,?_⟩) zK ?_;rotate_left
    · (intro w hSw;(try dsimp only at hSw);go_simp<;>with_reducible rfl)
    (try simp only[Act.put,Aa,Ab,Ac])
    (try simp only[Ak,Ah,Af,Act.put,Aa,Ab,Ac])
    refine Aq (i:=15) (oi:=_) (v:=?_) rfl zF zF zF (fun _ _ _ h=>h) (Or.inl ⟨zR,?_⟩) zK ?_;rotate_left
    · (intro w hSw;(try dsimp only at hSw);go_simp<;>with_reducible rfl)
    (try simp only[Act.put,Aa,Ab,Ac])
    (try simp only[Ak,Ah,Af,Act.put,Aa,Ab,Ac])
    refine Aq (i:=16) (oi:=_) (v:=?_) rfl zF zF zF (fun _ _ _ h=>h) (Or.inl ⟨zR,?_⟩) zK ?_;rotate_left
    · (intro w hSw;(try dsimp only at hSw);go_simp<;>with_reducible rfl)
    (try simp only[Act.put,Aa,Ab,Ac])
    (try simp only[Ak,Ah,Af,Act.put,Aa,Ab,Ac])
    refine Aq (i:=18) (oi:=_) (v:=?_) rfl zF zF zF (fun _ _ _ h=>h) (Or.inl ⟨zR,?_⟩) zK ?_;rotate_left
    · (intro w hSw;(try dsimp only at hSw);go_simp<;>with_reducible rfl)
    (try simp only[Act.put,Aa,Ab,Ac])
    (try simp only[Ak,Ah,Af,Act.put,Aa,Ab,Ac])
    refine Aq (i:=19) (oi:=_) (v:=?_) rfl zF zF zF (fun _ _ _ h=>h) (Or.inl ⟨zR,?_⟩) zK ?_;rotate_left
    · (intro w hSw;(try dsimp only at hSw);go_simp<;>with_reducible rfl)
    (try simp only[Act.put,Aa,Ab,Ac])
    (try simp only[Ak,Ah,Af,Act.put,Aa,Ab,Ac])
    refine Aq (i:=20) (oi:=_) (v:=?_) rfl zF zF zF (fun _ _ _ h=>h) (Or.inl ⟨zR,?_⟩) zK ?_;rotate_left
    · (intro w hSw;(try dsimp only at hSw);go_simp<;>with_reducible rfl)
    (try simp only[Act.put,Aa,Ab,Ac])
    (try simp only[Ak,Ah,Af,Act.put,Aa,Ab,Ac])
    refine Aq (i:=21) (oi:=_) (v:=?_) rfl zF zF zF (fun _ _ _ h=>h) (Or.inl ⟨zR,?_⟩) zK ?_;rotate_left
    · (intro w hSw;(try dsimp only at hSw);go_simp<;>with_reducible rfl)
    (try simp only[Act.put,Aa,Ab,Ac])
    (try simp only[Ak,Ah,Af,Act.put,Aa,Ab,Ac])
    refine Bk (rs:=[17,24]) zF zM ?_;refine Ba (o:=_) rfl (fun K hK=> ?_) (Ba (o:=_) rfl (fun K hK=> ?_) Aa7)
    · (go_simp;go_at_call 173;refine (HAT.out _ (HI.out.inv.rd.later zA)).mono ?_;rintro e1 w3 ⟨rfl,rfl⟩;(try dsimp only))
      refine hK.out _ _ ?_ (fun hHeld=> ?_)
      · ((try dsimp only);refine SK.out _ ?_;(repeat (first | with_reducible exact Aa2 _ _ | with_reducible assumption | (with_reducible refine Aw ?_ _) | (with_reducible refine Aa3 ?_ zE _) | (with_reducible refine Aa5 ?_) | (with_reducible refine Aa4 ?_ _) | (refine Aj zG ?_))))
      clear hK K
      (try simp only[Act.put,Aa,Ab,Ac])
      refine Aq (i:=22) (oi:=_) (v:=?_) rfl zF zF zF (fun _ _ _ h=>h) (Or.inl ⟨zR,?_⟩) zK ?_;rotate_left
      · (intro w hSw;(try dsimp only at hSw);go_simp<;>with_reducible rfl)
      (try simp only[Act.put,Aa,Ab,Ac])
      (try simp only[Ak,Ah,Af,Act.put,Aa,Ab,Ac])
      (try rw[HWL.out])
      refine Bk (rs:=[23,24]) zF zM ?_;refine Ba (o:=_) rfl (fun K hK=> ?_) (Ba (o:=_) rfl (fun K hK=> ?_) Aa7)
      · (go_simp;go_at_call 149;refine (HFO.out _ zA).mono ?_;rintro e1 w4 ⟨rfl,hb4⟩;have hbw4:Below W.heap.size W w4:=Aj hb4 zA;(try dsimp only))
        refine hK.out _ _ ?_ (fun hHeld=> ?_)
        · ((try dsimp only);refine SK.out _ ?_;(repeat (first | with_reducible exact Aa2 _ _ | with_reducible assumption | (with_reducible refine Aw ?_ _) | (with_reducible refine Aa3 ?_ zE _) | (with_reducible refine Aa5 ?_) | (with_reducible refine Aa4 ?_ _) | (refine Aj zG ?_))))
        clear hK K
        (try simp only[Act.put,Aa,Ab,Ac])
        refine Bk (rs:=[24]) zF zM ?_;refine Ba (o:=_) rfl (fun K hK=> ?_) Aa7;go_simp
        refine hK.out _ _ ?_ (fun hHeld=> ?_)
        · ((try dsimp only);refine SK.out _ ?_;(repeat (first | with_reducible exact Aa2 _ _ | with_reducible assumption | (with_reducible refine Aw ?_ _) | (with_reducible refine Aa3 ?_ zE _) | (with_reducible refine Aa5 ?_) | (with_reducible refine Aa4 ?_ _) | (refine Aj zG ?_))))
        clear hK K
        (try simp only[Act.put,Aa,Ab,Ac])
        refine Aq (i:=25) (oi:=_) (v:=?_) rfl zF zF zF (fun _ _ _ h=>h) (Or.inl ⟨zR,?_⟩) zK ?_;rotate_left
        · (intro w hSw;(try dsimp only at hSw);go_simp<;>with_reducible rfl)
        (try simp only[Act.put,Aa,Ab,Ac])
        (try simp only[Ak,Ah,Af,Act.put,Aa,Ab,Ac])
        refine FP zJ ?_ _;show wpList _ _ _ _ _ _
        go_wp2_with fail;go_meet
        case rel=>exact ⟨_,rfl,hid zD,hbw4.size,hid (HI.out.later zA),by have:=hbw4.size;first | omega | (simp;omega)⟩
      · go_simp
        refine hK.out _ _ ?_ (fun hHeld=> ?_)
        · ((try dsimp only);refine SK.out _ ?_;(repeat (first | with_reducible exact Aa2 _ _ | with_reducible assumption | (with_reducible refine Aw ?_ _) | (with_reducible refine Aa3 ?_ zE _) | (with_reducible refine Aa5 ?_) | (with_reducible refine Aa4 ?_ _) | (refine Aj zG ?_))))
        clear hK K
        (try simp only[Act.put,Aa,Ab,Ac])
        refine Bk (rs:=[23]) zF zM ?_;refine Ba (o:=_) rfl (fun K hK=> ?_) Aa7
        (go_simp;go_at_call 149;refine (HFO.out _ zA).mono ?_;rintro e1 w4 ⟨rfl,hb4⟩;have hbw4:Below W.heap.size W w4:=Aj hb4 zA;have hZ4:Blk w4 W.heap.size 81 #[.int .u64 0,.int .i64 0,.int .i64 0,.int .u64 0,.int .u64 0,.int .i64 0,.int .i64 0]:=Blk.later zD hb4;(try dsimp only))
        refine hK.out _ _ ?_ (fun hHeld=> ?_)
        · ((try dsimp only);refine SK.out _ ?_;(repeat (first | with_reducible exact Aa2 _ _ | with_reducible assumption | (with_reducible refine Aw ?_ _) | (with_reducible refine Aa3 ?_ zE _) | (with_reducible refine Aa5 ?_) | (with_reducible refine Aa4 ?_ _) | (refine Aj zG ?_))))
        clear hK K
        (try simp only[Act.put,Aa,Ab,Ac])
        refine Aq (i:=25) (oi:=_) (v:=?_) rfl zF zF zF (fun _ _ _ h=>h) (Or.inl ⟨zR,?_⟩) zK ?_;rotate_left
        · (intro w hSw;(try dsimp only at hSw);go_simp<;>with_reducible rfl)
        (try simp only[Act.put,Aa,Ab,Ac])
        (try simp only[Ak,Ah,Af,Act.put,Aa,Ab,Ac])
        refine FP zJ ?_ _;refine wpList_store_row rfl 81 _ _ rfl W.heap.size #[.int .u64 WF.ep,.int .i64 WF.n,.int .i64 WF.en,.int .u64 WF.first,.int .u64 WF.fin,.int .i64 WF.at_,.int .i64 WF.size] rfl rfl 81 #[.int .u64 0,.int .i64 0,.int .i64 0,.int .u64 0,.int .u64 0,.int .i64 0,.int .i64 0] hZ4 HINF.out rfl HONE.out ?_;go_wp2_with fail;go_meet
        case rel=>exact ⟨_,rfl,hid (Blk.row _ hZ4),As _,hid ((HI.out.later hbw4).side (Tch.row _ _ _) (fun b e1 e2=>by have e2:b=W.heap.size:=e2;have:=HI.out.t2;omega)),Bb hbw4.size (Tch.row _ _ _).size⟩
    · go_simp
      refine hK.out _ _ ?_ (fun hHeld=> ?_)
      · ((try dsimp only);refine SK.out _ ?_;(repeat (first | with_reducible exact Aa2 _ _ | with_reducible assumption | (with_reducible refine Aw ?_ _) | (with_reducible refine Aa3 ?_ zE _) | (with_reducible refine Aa5 ?_) | (with_reducible refine Aa4 ?_ _) | (refine Aj zG ?_))))
      clear hK K
      (try simp only[Act.put,Aa,Ab,Ac])
      refine Bk (rs:=[17]) zF zM ?_;refine Ba (o:=_) rfl (fun K hK=> ?_) Aa7
      (go_simp;go_at_call 173;refine (HAT.out _ (HI.out.inv.rd.later zA)).mono ?_;rintro e1 w3 ⟨rfl,rfl⟩;(try dsimp only))
      refine hK.out _ _ ?_ (fun hHeld=> ?_)
      · ((try dsimp only);refine SK.out _ ?_;(repeat (first | with_reducible exact Aa2 _ _ | with_reducible assumption | (with_reducible refine Aw ?_ _) | (with_reducible refine Aa3 ?_ zE _) | (with_reducible refine Aa5 ?_) | (with_reducible refine Aa4 ?_ _) | (refine Aj zG ?_))))
      clear hK K
      (try simp only[Act.put,Aa,Ab,Ac])
      refine Aq (i:=22) (oi:=_) (v:=?_) rfl zF zF zF (fun _ _ _ h=>h) (Or.inl ⟨zR,?_⟩) zK ?_;rotate_left
      · (intro w hSw;(try dsimp only at hSw);go_simp<;>with_reducible rfl)
      (try simp only[Act.put,Aa,Ab,Ac])
      (try simp only[Ak,Ah,Af,Act.put,Aa,Ab,Ac])
      (try rw[HWL.out])
      refine Bk (rs:=[23]) zF zM ?_;refine Ba (o:=_) rfl (fun K hK=> ?_) Aa7
      (go_simp;go_at_call 149;refine (HFO.out _ zA).mono ?_;rintro e1 w4 ⟨rfl,hb4⟩;have hbw4:Below W.heap.size W w4:=Aj hb4 zA;have hZ4:Blk w4 W.heap.size 81 #[.int .u64 0,.int .i64 0,.int .i64 0,.int .u64 0,.int .u64 0,.int .i64 0,.int .i64 0]:=Blk.later zD hb4;(try dsimp only))
      refine hK.out _ _ ?_ (fun hHeld=> ?_)
      · ((try dsimp only);refine SK.out _ ?_;(repeat (first | with_reducible exact Aa2 _ _ | with_reducible assumption | (with_reducible refine Aw ?_ _) | (with_reducible refine Aa3 ?_ zE _) | (with_reducible refine Aa5 ?_) | (with_reducible refine Aa4 ?_ _) | (refine Aj zG ?_))))
      clear hK K
      (try simp only[Act.put,Aa,Ab,Ac])
      refine Aq (i:=25) (oi:=_) (v:=?_) rfl zF zF zF (fun _ _ _ h=>h) (Or.inl ⟨zR,?_⟩) zK ?_;rotate_left
      · (intro w hSw;(try dsimp only at hSw);go_simp<;>with_reducible rfl)
      (try simp only[Act.put,Aa,Ab,Ac])
      (try simp only[Ak,Ah,Af,Act.put,Aa,Ab,Ac])
      refine FP zJ ?_ _;refine wpList_store_row rfl 81 _ _ rfl W.heap.size #[.int .u64 WF.ep,.int .i64 WF.n,.int .i64 WF.en,.int .u64 WF.first,.int .u64 WF.fin,.int .i64 WF.at_,.int .i64 WF.size] rfl rfl 81 #[.int .u64 0,.int .i64 0,.int .i64 0,.int .u64 0,.int .u64 0,.int .i64 0,.int .i64 0] hZ4 HINF.out rfl HONE.out ?_;go_wp2_with fail;go_meet
      case rel=>exact ⟨_,rfl,hid (Blk.row _ hZ4),As _,hid ((HI.out.later hbw4).side (Tch.row _ _ _) (fun b e1 e2=>by have e2:b=W.heap.size:=e2;have:=HI.out.t2;omega)),Bb hbw4.size (Tch.row _ _ _).size⟩
  case rest=>
    obtain⟨g2,rfl,HW2,hg2,HI2,hz2⟩:=hcut;clear HI HAT HFO HMR SK y0 y1 y2 y3 y4 y5;generalize hWc:wc=w2 at*;have hg2l:=HW2.out.lt;go_wp2_with fail;refine (HPA.out _ HI2.out).mono ?_;rintro r w3 ⟨ap,cp,rfl,hD3,hi3,hz3,ht3⟩;have HI3:=hid hi3;have HD3:=hid (show Am.r (·<w3.heap.size) w3 [.slice ap D.length cp] D from Am.mono hD3 fun q e=>e.2);have HW3:=hid (HW2.out.tch ht3 (fun e=>by rcases e with e | e<;>omega));clear hD3 hi3 ht3 HPA HI2 HW2;obtain⟨y0,y1,y2,y3,y4,y5,ly3⟩:=Aa6 HI3.out.rb;generalize hA:((t.p:Int)-4-(D.length:Int))=A at*;by_cases ht:t.k=0
    · rw[Ad ht] at HGT
      obtain⟨c1,c2,c3,c4,c5⟩:=hcan ht;have hA1: -9000000≤A∧A≤1000000000:=zC;have hpt:s.p≤t.p:=zC;have hs:=HSE.out;rw[Ag ht] at hs;obtain⟨u,hu⟩:∃u,t.within fk ff A=u:=⟨_,rfl⟩;rw[hu] at hs;obtain⟨v,hv⟩:∃v,(if f=WF then u else u.fail 12 (s.p:Int))=v:=⟨_,rfl⟩;rw[hv] at hs;have hvp:v.p=t.p:=by
        rw[←hv,←hu];split
        · exact Rs.Abi
        · rw[Rs.NL]
          exact Rs.Abi
      obtain⟨tk,htk⟩:∃tk,v.take B 12=tk:=⟨_,rfl⟩;rw[htk] at hs;obtain⟨z1,Z⟩:=tk;dsimp only at hs;obtain⟨nn,hnn⟩:∃nn:Nat,v.p-s.p=nn:=⟨_,rfl⟩;rw[hnn] at hs;have hnn2:(v.p:Int)-(s.p:Int)=(nn:Int):=zC;have hnn3:nn<18446744073709551616:=zC;obtain⟨z2,hz2'⟩:∃z2,(if Z=CY nn then z1 else z1.fail 12 (v.p:Int))=z2:=⟨_,rfl⟩;rw[hz2'] at hs;have hvB:v.p≤B.length:=zC;have HRP:=hid (fun (V:World) (h:Am.r (·<V.heap.size) V [.slice ap D.length cp] D)=>(by have h0:=Kn V D ap _ cp h zC;rw[HFD.out] at h0;exact h0:Calls Tryz.prog 199 #[.slice ap D.length cp] V fun r w'=>r=.returned (.tuple #[.agg #[.int .u64 f.ep,.int .i64 f.n,.int .i64 f.en,.int .u64 f.first,.int .u64 f.fin,.int .i64 f.at_,.int .i64 f.size],.agg #[.int .i64 fk,.int .i64 ff]])∧Below V.heap.size V w'));have HWI:=hid (fun (V:World) (hV:AS V gc B a t) (x0:V.cell? ⟨gr,0,none⟩=some (.pointer (some ⟨gc,0,none⟩)))=>(by have h0:=Abb V hV x0 fk ff A;rw[hu] at h0;exact h0:Calls Tryz.prog 198 #[.pointer (some ⟨gr,0,none⟩),.agg #[.int .i64 fk,.int .i64 ff],.int .i64 A] V fun r w'=>r=.returned (.tuple #[])∧AE V gc B a u w'));obtain⟨nb,hnb⟩:∃nb:Bool,decide (f≠WF)=nb:=⟨_,rfl⟩;have HAV:=hid (fun (V:World) (hV:AS V gc B a v)=>Cd V hV);have HTS:=hid Jm;have HTK:=hid (fun (V:World) (hV:AS V gc B a v)=>(by have h0:=KF V hV 12 zL zC;rw[htk] at h0;exact h0:Calls Tryz.prog 200 #[.pointer (some ⟨gc,0,none⟩),.int .i64 12] V fun r w'=>∃x,r=.returned x∧Am.r (fun q=>V.heap.size≤q∧q<w'.heap.size) w' [x] Z∧AE V gc B a z1 w'));have HTR:=hid (fun V:World=>Jl nn hnn3 V);have HEN:=hid (fun (V:World) (hV:AS V gc B a z2)=>SV V hV);rw[←hs] at HEN;have HV:=hid hv;have HNB:=hid hnb;have HZ2:=hid hz2';have HNN2:=hid hnn2;have HT:=hid ht;have HA:=hid hA;clear hcan ht c1 c2 c5 hs hu hv htk hz2' hnb hA HSE HFD hnn hnn2 hvp;go_wp2_with fail;refine (HGT.out _ HI3.out.inv.rd).mono ?_;rintro r w4 ⟨rfl,hb4⟩;have HI4:=hid (HI3.out.later hb4);have HW4:=hid (HW3.out.later hb4);have HD4:=hid (lift HD3.out hb4);have hz4:=hb4.size;clear hb4 HI3 HW3 HD3 HGT y0 y1 y2 y3 y4 y5 ly3;go_wp2_with fail;refine (HRP.out _ HD4.out).mono ?_;rintro r w5 ⟨rfl,hb5⟩;have hbT:Below w5.heap.size w5 ((w5.alloc (.cells #[.int .u64 f.ep,.int .i64 f.n,.int .i64 f.en,.int .u64 f.first,.int .u64 f.fin,.int .i64 f.at_,.int .i64 f.size] 81)).alloc (.cells #[.int .i64 fk,.int .i64 ff] 65)):=zA;have HF6:=hid (show Blk ((w5.alloc (.cells #[.int .u64 f.ep,.int .i64 f.n,.int .i64 f.en,.int .u64 f.first,.int .u64 f.fin,.int .i64 f.at_,.int .i64 f.size] 81)).alloc (.cells #[.int .i64 fk,.int .i64 ff] 65)) w5.heap.size 81 #[.int .u64 f.ep,.int .i64 f.n,.int .i64 f.en,.int .u64 f.first,.int .u64 f.fin,.int .i64 f.at_,.int .i64 f.size] by (repeat (first | assumption | exact Blk.newAt _ _ _ zS | refine Blk.alloc ?_ _ | refine Blk.drew ?_ | refine Blk.drewN ?_ _ | refine Blk.far ?_ zS _)));have HX6:=hid (show Blk ((w5.alloc (.cells #[.int .u64 f.ep,.int .i64 f.n,.int .i64 f.en,.int .u64 f.first,.int .u64 f.fin,.int .i64 f.at_,.int .i64 f.size] 81)).alloc (.cells #[.int .i64 fk,.int .i64 ff] 65)) (w5.heap.size+1) 65 #[.int .i64 fk,.int .i64 ff] by (repeat (first | assumption | exact Blk.newAt _ _ _ zS | refine Blk.alloc ?_ _ | refine Blk.drew ?_ | refine Blk.drewN ?_ _ | refine Blk.far ?_ zS _)));have HI6:=hid ((HI4.out.later hb5).later hbT);have HW6:=hid ((HW4.out.later hb5).later hbT);have hz5:=hb5.size;have hz6:=hbT.size;clear hb5 hbT HI4 HW4 HD4 HRP;go_upto_region 4 with (fail);generalize ((w5.alloc (.cells #[.int .u64 f.ep,.int .i64 f.n,.int .i64 f.en,.int .u64 f.first,.int .u64 f.fin,.int .i64 f.at_,.int .i64 f.size] 81)).alloc (.cells #[.int .i64 fk,.int .i64 ff] 65))=w6 at*;obtain⟨gf,hgf⟩:∃gf,gf=w5.heap.size:=⟨_,rfl⟩;rw[←hgf] at HF6 HX6;generalize w5.heap.size=zzgf at*;subst hgf;obtain⟨x0,x1,x2,x3,lx⟩:=Bd HX6.out;obtain⟨y0,y1,y2,y3,y4,y5,ly6⟩:=Aa6 HI6.out.rb;go_wp2_with fail;refine (HWI.out _ HI6.out.inv.rd y0).mono ?_;rintro r w7 ⟨rfl,hst7⟩;have HI7:=hid (HI6.out.step hst7);have HW7:=hid (HW6.out.tch hst7.2 zC);have HF7:=hid (HF6.out.tch hst7.2 zC);have hz7:=hst7.2.size;clear hst7 HI6 HW6 HF6 HX6 HWI x0 x1 x2 x3 lx y0 y1 y2 y3 y4 y5 ly6;obtain⟨p0,p1,p2,p3,p4,p5,p6,lp⟩:=Jq HF7.out;obtain⟨q0,q1,q2,q3,q4,q5,q6,lq⟩:=Jq HW7.out;obtain⟨y0,y1,y2,y3,y4,y5,ly7⟩:=Aa6 HI7.out.rb;go_upto_region 5 with (fail);go_cut [54] from 52 to 54 (fun s54 V=>s54=.bool nb∧w7=V)
      case first=>
        by_cases h0:f.ep=WF.ep
        · have d0:(f.ep==WF.ep)=true:=by simp[h0]
          by_cases h1:f.n=WF.n
          · have d1:(f.n==WF.n)=true:=by simp[h1]
            by_cases h2:f.en=WF.en
            · have d2:(f.en==WF.en)=true:=by simp[h2]
              by_cases h3:f.first=WF.first
              · have d3:(f.first==WF.first)=true:=by simp[h3]
                by_cases h4:f.fin=WF.fin
                · have d4:(f.fin==WF.fin)=true:=by simp[h4]
                  by_cases h5:f.at_=WF.at_
                  · have d5:(f.at_==WF.at_)=true:=by simp[h5]
                    by_cases h6:f.size=WF.size
                    · have d6:(f.size==WF.size)=true:=by simp[h6]
                      have hbF:nb=false:=by rw[←HNB.out];exact Ae (fun x=>x (by cases f;cases WF;simp_all))
                      go_wp2_with fail;go_meet
                      case rel=>exact ⟨A3 Value.bool hbF.symm,rfl⟩
                    · have d6:(f.size==WF.size)=false:=by simp[h6]
                      have hbT:nb=true:=by rw[←HNB.out];exact Ad (fun x:f=WF=>h6 (by rw[x]))
                      go_wp2_with fail;go_meet
                      case rel=>exact ⟨A3 Value.bool hbT.symm,rfl⟩
                  · have d5:(f.at_==WF.at_)=false:=by simp[h5]
                    have hbT:nb=true:=by rw[←HNB.out];exact Ad (fun x:f=WF=>h5 (by rw[x]))
                    go_wp2_with fail;go_meet
                    case rel=>exact ⟨A3 Value.bool hbT.symm,rfl⟩
                · have d4:(f.fin==WF.fin)=false:=by simp[h4]
                  have hbT:nb=true:=by rw[←HNB.out];exact Ad (fun x:f=WF=>h4 (by rw[x]))
                  go_wp2_with fail;go_meet
                  case rel=>exact ⟨A3 Value.bool hbT.symm,rfl⟩
              · have d3:(f.first==WF.first)=false:=by simp[h3]
                have hbT:nb=true:=by rw[←HNB.out];exact Ad (fun x:f=WF=>h3 (by rw[x]))
                go_wp2_with fail;go_meet
                case rel=>exact ⟨A3 Value.bool hbT.symm,rfl⟩
            · have d2:(f.en==WF.en)=false:=by simp[h2]
              have hbT:nb=true:=by rw[←HNB.out];exact Ad (fun x:f=WF=>h2 (by rw[x]))
              go_wp2_with fail;go_meet
              case rel=>exact ⟨A3 Value.bool hbT.symm,rfl⟩
          · have d1:(f.n==WF.n)=false:=by simp[h1]
            have hbT:nb=true:=by rw[←HNB.out];exact Ad (fun x:f=WF=>h1 (by rw[x]))
            go_wp2_with fail;go_meet
            case rel=>exact ⟨A3 Value.bool hbT.symm,rfl⟩
        · have d0:(f.ep==WF.ep)=false:=by simp[h0]
          have hbT:nb=true:=by rw[←HNB.out];exact Ad (fun x:f=WF=>h0 (by rw[x]))
          go_wp2_with fail;go_meet
          case rel=>exact ⟨A3 Value.bool hbT.symm,rfl⟩
      case rest=>
       obtain⟨rfl,rfl⟩:=hcut;go_upto_if 54 with (fail);go_cut [] from 55 to 63 (fun V=>Hid (EI w gr gc B a v ep vL l (.slice aM M.length cM) M q (s.p:Int) T V)∧w7.heap.size≤V.heap.size)
       case first=>
         cases nb
         · have hv:=HV.out
           rw[Ag (by have h0:=HNB.out;simpa using h0)] at hv;subst hv;go_wp2_with fail;go_meet
           case rel=>exact ⟨HI7,As _⟩
         · have hv:=HV.out
           rw[Ai (by have h0:=HNB.out;simpa using h0)] at hv;have HFL:=hid (fun (V:World) (hV:AS V gc B a u)=>(by have h0:=Bx V hV 12 (s.p:Int) zL;rw[hv] at h0;exact h0:Calls Tryz.prog 124 #[.pointer (some ⟨gc,0,none⟩),.int .i64 12,.int .i64 (s.p:Int)] V fun r w'=>r=.returned (.tuple #[])∧AE V gc B a v w'));clear hv;go_wp2_with fail;refine Gk 8 zJ zJ ?_;simp only[DH,Ig,Abf,De];repeat still_step
           refine wpStill_nil ?_;go_wp2_with fail;refine (HFL.out _ (HI7.out.inv.rd.later zA)).mono ?_;rintro r w8 ⟨rfl,hst8⟩;have HI8:=hid ((HI7.out.later (show Below w7.heap.size w7 w7.drew by (repeat (first | with_reducible exact Aa2 _ _ | with_reducible assumption | (with_reducible refine Aw ?_ _) | (with_reducible refine Aa3 ?_ zE _) | (with_reducible refine Aa5 ?_) | (with_reducible refine Aa4 ?_ _) | (refine Aj zG ?_))))).step hst8);have hz8:=hst8.2.size;go_wp2_with fail;go_meet
           case rel=>exact ⟨HI8,hz8⟩
       case rest=>
         obtain⟨HI8,hz8⟩:=hcut;clear HI7 HW7 HF7 p0 p1 p2 p3 p4 p5 p6 lp q0 q1 q2 q3 q4 q5 q6 lq y0 y1 y2 y3 y4 y5 ly7;generalize hWd:wc=w8 at*;obtain⟨y0,y1,y2,y3,y4,y5,ly8⟩:=Aa6 HI8.out.rb;go_wp2_with fail;refine (HAV.out _ HI8.out.inv.rd).mono ?_;rintro r w9 ⟨rfl,rfl⟩;go_wp2_with fail;refine wp_region_held_drew (S:=fun w'=>w'.cell? ⟨gr,0,none⟩=some (.pointer (some ⟨gc,0,none⟩))) zJ y0 (fun hHeld=> ?_);refine Aq (i:=0) (oi:=_) (v:=?_) rfl zF zF zF (fun _ _ _ h=>h) (Or.inl ⟨zR,?_⟩) zK ?_;rotate_left
         · (intro w hSw;(try dsimp only at hSw);go_simp<;>with_reducible rfl)
         (try simp only[Act.put,Aa,Ab,Ac])
         (try simp only[Ak,Ah,Af,Act.put,Aa,Ab,Ac])
         refine Aq (i:=1) (oi:=_) (v:=?_) rfl zF zF zF (fun _ _ _ h=>h) (Or.inl ⟨zR,?_⟩) zK ?_;rotate_left
         · (intro w hSw;(try dsimp only at hSw);go_simp<;>with_reducible rfl)
         (try simp only[Act.put,Aa,Ab,Ac])
         (try simp only[Ak,Ah,Af,Act.put,Aa,Ab,Ac])
         refine Aq (i:=2) (oi:=_) (v:=?_) rfl zF zF zF (fun _ _ _ h=>h) (Or.inl ⟨zR,?_⟩) zK ?_;rotate_left
         · (intro w hSw;(try dsimp only at hSw);go_simp<;>with_reducible rfl)
         (try simp only[Act.put,Aa,Ab,Ac])
         (try simp only[Ak,Ah,Af,Act.put,Aa,Ab,Ac])
         refine Aq (i:=3) (oi:=_) (v:=?_) rfl zF zF zF (fun _ _ _ h=>h) (Or.inl ⟨zR,?_⟩) zK ?_;rotate_left
         · (intro w hSw;(try dsimp only at hSw);go_simp<;>with_reducible rfl)
         (try simp only[Act.put,Aa,Ab,Ac])
         (try simp only[Ak,Ah,Af,Act.put,Aa,Ab,Ac])
         refine Bk (rs:=[4]) zF zM ?_;refine Ba (o:=_) rfl (fun K hK=> ?_) Aa7
         (go_simp;go_at_call 156;refine (HTS.out _).mono ?_;rintro e1 w9 ⟨rfl,rfl⟩;(try dsimp only))
         refine hK.out _ _ ?_ (fun hHeld=> ?_)
         · ((try dsimp only);exact y0)
         clear hK K
         (try simp only[Act.put,Aa,Ab,Ac])
         refine Bk (rs:=[5]) zF zM ?_;refine Ba (o:=_) rfl (fun K hK=> ?_) Aa7
         (go_simp;go_at_call 200;refine (HTK.out _ (HI8.out.inv.rd.later zA)).mono ?_;rintro e1 w10 ⟨x10,rfl,hr10,hst10⟩;obtain⟨aZ,cZ,hfv,hr10',_⟩:=AH hr10;simp only[Av,AI] at hfv;subst hfv;have HI10:=hid ((HI8.out.later (show Below w8.heap.size w8 w8.drew by (repeat (first | with_reducible exact Aa2 _ _ | with_reducible assumption | (with_reducible refine Aw ?_ _) | (with_reducible refine Aa3 ?_ zE _) | (with_reducible refine Aa5 ?_) | (with_reducible refine Aa4 ?_ _) | (refine Aj zG ?_))))).step hst10);have HZ10:=hid (show Am.r (·<w10.heap.size) w10 [.slice aZ Z.length cZ] Z from Am.mono hr10' fun q e=>e.2);have hz10':w8.heap.size≤w10.heap.size:=hst10.2.size;clear hr10 hr10' hst10;(try dsimp only))
         refine hK.out _ _ ?_ (fun hHeld=> ?_)
         · ((try dsimp only);exact (Aa6 HI10.out.rb).1)
         clear hK K
         (try simp only[Act.put,Aa,Ab,Ac])
         refine Aq (i:=6) (oi:=_) (v:=?_) rfl zF zF zF (fun _ _ _ h=>h) (Or.inl ⟨zR,?_⟩) zK ?_;rotate_left
         · (intro w hSw;(try dsimp only at hSw);go_simp<;>with_reducible rfl)
         (try simp only[Act.put,Aa,Ab,Ac])
         (try simp only[Ak,Ah,Af,Act.put,Aa,Ab,Ac])
         refine FP zJ ?_ _;clear HI8 HTK y0 y1 y2 y3 y4 y5 ly8;obtain⟨y0,y1,y2,y3,y4,y5,ly10⟩:=Aa6 HI10.out.rb;go_wp2_with fail;rw[HNN2.out];refine (HTR.out _).mono ?_;rintro r w11 ⟨x11,rfl,hr11,hb11⟩;obtain⟨aT,cT,hfv,hr11',_⟩:=AH hr11;simp only[Av,AI] at hfv;subst hfv;have HI11:=hid (HI10.out.later hb11);have HZ11:=hid (lift HZ10.out hb11);have HT11:=hid (show Am.r (·<w11.heap.size) w11 [.slice aT (CY nn).length cT] (CY nn) from Am.mono hr11' fun q e=>e.2);have hz11:=hb11.size;clear hr11 hr11' hb11 HI10 HZ10 HTR y0 y1 y2 y3 y4 y5 ly10;have HEQ:=hid (Ju Z (CY nn) aZ aT _ cZ _ cT w11 HZ11.out HT11.out);obtain⟨y0,y1,y2,y3,y4,y5,ly11⟩:=Aa6 HI11.out.rb;by_cases hZ:Z=CY nn
         · rw[Ad hZ] at HEQ
           have hz2':=HZ2.out;rw[Ag hZ] at hz2';subst hz2';clear hZ;go_wp2_with fail;refine HEQ.out.mono ?_;rintro r w12 ⟨rfl,rfl⟩;go_wp2_with fail;refine (HEN.out _ HI11.out.inv.rd).mono ?_;rintro r w13 ⟨rfl,hst13⟩;have HI13:=hid (HI11.out.step hst13);have hz13:=hst13.2.size;go_wp2_with fail;first | go_end0 | refine Ax (A4 rfl _ _ _) rfl ?_
           exact⟨rfl,⟨_,_,HI13.out⟩,zC⟩
         · rw[Ae hZ] at HEQ
           have hz2':=HZ2.out;rw[Ai hZ] at hz2';have HFL:=hid (fun (V:World) (hV:AS V gc B a z1)=>(by have h0:=Bx V hV 12 (v.p:Int) zL;rw[hz2'] at h0;exact h0:Calls Tryz.prog 124 #[.pointer (some ⟨gc,0,none⟩),.int .i64 12,.int .i64 (v.p:Int)] V fun r w'=>r=.returned (.tuple #[])∧AE V gc B a z2 w'));clear hZ hz2';go_wp2_with fail;refine HEQ.out.mono ?_;rintro r w12 ⟨rfl,rfl⟩;go_wp2_with fail;refine (HFL.out _ HI11.out.inv.rd).mono ?_;rintro r w12 ⟨rfl,hst12⟩;have HI12:=hid (HI11.out.step hst12);have hz12:=hst12.2.size;clear hst12 HI11 y0 y1 y2 y3 y4 y5 ly11;obtain⟨y0,y1,y2,y3,y4,y5,ly12⟩:=Aa6 HI12.out.rb;go_wp2_with fail;refine (HEN.out _ HI12.out.inv.rd).mono ?_;rintro r w13 ⟨rfl,hst13⟩;have HI13:=hid (HI12.out.step hst13);have hz13:=hst13.2.size;go_wp2_with fail;first | go_end0 | refine Ax (A4 rfl _ _ _) rfl ?_
           exact⟨rfl,⟨_,_,HI13.out⟩,zC⟩
    · rw[Ae ht] at HGT
      have hs:=HSE.out;rw[Ai ht] at hs;subst hs;clear ht hcan;go_wp2_with fail;refine (HGT.out _ HI3.out.inv.rd).mono ?_;rintro r w4 ⟨rfl,hb4⟩;have HI4:=hid (HI3.out.later hb4);have hz4:=hb4.size;go_wp2_with fail;first | go_end0 | refine Ax (A4 rfl _ _ _) rfl ?_
      exact⟨rfl,⟨_,_,HI4.out⟩,zC⟩
theorem Acl(W:World):W.drew.heap=W.heap:=rfl
theorem Abj{blk:List UInt8→Rs→Rs × List UInt8 × Bool}:∀(n:Nat) (s:Rs) (l:List Batch) (M:List AP) (q:Bool),s.fit B.length→B.length-s.p<n→(Dj B ep blk n s l M q).1.k=0→(Dj B ep blk n s l M q).2.1≤(Dj B ep blk n s l M q).1.p
 | 0,s,l,M,q,hs,hn,h=>absurd hn (Nat.not_lt_zero _)
 | n+1,s,l,M,q,hs,hn,h=>by
  generalize hF:s.frame B 2097152=F;rw[DY B ep blk n s l M q hF] at h ⊢;have hfit:=Rs.Ga hs 2097152;rw[hF] at hfit;have hcan:=fun hk:F.1.k=0=>Rs.Jk (P:=F.2) (t:=F.1) hs hF hk;obtain⟨u,P⟩:=F;dsimp only at*;by_cases hk:u.k=0
  ·rw[Ag hk] at h ⊢
   obtain⟨c1,c2,c3,c4,c5⟩:=hcan hk;have hlow:=Km P;by_cases hP:P=[]
   ·rw[Ag hP] at h
    exact absurd h (Rs.BI zC)
   ·rw[Ai hP] at h ⊢
    by_cases h1:P.headD 0=1
    ·rw[Ag h1] at h ⊢
     have hwp:∀k f a:Int,(u.within k f a).p=u.p:=fun k f a=>Rs.Abi;have hw0:∀k f a:Int,(u.within k f a).k=0→u.within k f a=u:=fun k f a e=>by
      have e1:=Oi e;rw[e1];exact Rs.DA
     generalize Rs.batch P (blk P) ⟨1,0,0⟩=X at*;have hw1:=hw0 (X.1.fin P.length).k (X.1.fin P.length).f ((u.p:Int)-4-(P.length:Int));generalize u.within (X.1.fin P.length).k (X.1.fin P.length).f ((u.p:Int)-4-(P.length:Int))=v at*;by_cases hv:v.k=0
     ·rw[Ag hv] at h ⊢
      by_cases hl:l.length=16
      ·rw[Ag hl] at h
       exact absurd h (Rs.BI zC)
      ·rw[Ai hl] at h ⊢
       by_cases hm:EU ep (Ce l l.length) X.2.1=true
       ·rw[Ag hm] at h ⊢
        rw[hw1 hv] at h ⊢;exact Abj n u _ _ _ hfit zC h
       ·rw[Ai hm] at h
        exact absurd h (Rs.BI zC)
     ·rw[Ai hv] at h
      exact absurd h hv
    ·rw[Ai h1] at h ⊢
     by_cases h2:P.headD 0=2
     ·rw[Ag h2] at h ⊢
      dsimp only at h ⊢;have hwp:∀k f a:Int,(u.within k f a).p=u.p:=fun k f a=>Rs.Abi;split
      ·rw[Rs.NL,hwp]
       omega
      ·rw[hwp]
       omega
     ·rw[Ai h2] at h
      exact absurd h (Rs.BI zC)
  ·rw[Ai hk] at h
   exact absurd h hk
theorem AbS{base:Nat}:Dd base JQ base 88 3 w (.slice none 0 0) [] []:=⟨⟨rfl,.inl ⟨rfl,rfl⟩⟩,rfl,(fun c hc=>absurd hc List.not_mem_nil),(fun i cs x h1 h2=>by simp at h1)⟩
theorem EI.start{W:World}(hi:CS w W gc B a s)(hb:Blk W gr 166 #[.pointer (some ⟨gc,0,none⟩),.int .u64 ep,.slice none 0 0,.slice none 0 0,.bool true,.int .i64 0])(hg:w.heap.size≤gr):
  EI w gr gc B a s ep (.slice none 0 0) [] (.slice none 0 0) [] true 0 (gr+1) W:=
 ⟨hi,hb,hg,⟨[],AY.nil⟩,⟨[],AbS⟩,fun b e=>ZO,fun b e=>ZO,fun b e=>ZO,Nat.lt_succ_self _,hb.lt⟩
theorem AbU{blk:List UInt8→Rs→Rs × List UInt8 × Bool}{g:Seg}(h:Uy B blk=(g,q,k,f)){h0:Rs}{v e b:Nat}(hh:(⟨0,0,0⟩:Rs).hdr B=(h0,v,e,b))(hs:(if v=3 then h0 else h0.fail 8 4)=s){RES:Rs × Nat × List Batch × List AP × Bool}(hr:Abn B (e:Int) blk s=RES){z:Rs}(hz:(if RES.1.k=0 then Kb B RES.1 RES.2.1 (e:Int) RES.2.2.2.1 else RES.1)=z):
  (if z.k=0 then ((⟨(e:Int),RES.2.2.1⟩:Seg),RES.2.2.2.2,(0:Int),(0:Int)) else (WN,false,z.k,z.f))=(g,q,k,f):=by
 rw[←h];unfold Uy;dsimp only;rw[hh];dsimp only;rw[hs];have:(if s.k=0 then Dj B (e:Int) blk (B.length+1) s [] [] true else (s,0,[],[],true))=RES:=hr;rw[this,hz]
set_option maxHeartbeats 12800000 in
theorem AbF(w:World)(B:List UInt8)(a:Option Addr)(n c:Nat)(hl:Am.r (·<w.heap.size) w [.slice a n c] B)(hB:B.length≤1000000000){fn:Nat}{blk:List UInt8→Rs→Rs × List UInt8 × Bool}(hR:Acj fn blk){g:Seg}(hD:Uy B blk=(g,q,k,f)):
  Calls Tryz.prog 71 #[.slice a n c,.func (Fn.func fn) #[] #[]] w fun r w'=>∃a' c',r=.returned (.tuple #[.agg #[.int .u64 g.epoch,.slice a' g.batches.length c'],.bool q,.agg #[.int .i64 k,.int .i64 f]])∧DN.r (fun x=>w.heap.size≤x∧x<w'.heap.size) w' [.slice a' g.batches.length c'] g.batches∧Below w.heap.size w w':=by
 obtain⟨rfl,hmx,hcc,hcm⟩:=AL hl;generalize hh:(⟨0,0,0⟩:Rs).hdr B=HH at*;have hhf:=Rs.Ur (Rs.FC B.length);rw[hh] at hhf;obtain⟨h0,v,e,b⟩:=HH;dsimp only at hhf;obtain⟨s,hs⟩:∃s,(if v=3 then h0 else h0.fail 8 4)=s:=⟨_,rfl⟩;have hsf:s.k=0→s.fit B.length:=fun e0=>by
  by_cases hv:v=3
  ·rw[Ag hv] at hs
   rw[←hs];exact hhf
  ·rw[Ai hv] at hs
   rw[←hs] at e0;exact absurd e0 (Rs.BI zL)
 obtain⟨RES,hres⟩:∃RES,Abn B (e:Int) blk s=RES:=⟨_,rfl⟩;obtain⟨z,hz⟩:∃z,(if RES.1.k=0 then Kb B RES.1 RES.2.1 (e:Int) RES.2.2.2.1 else RES.1)=z:=⟨_,rfl⟩;have hway:=AbU hD hh hs hres hz;have hok:RES.1.k=0→Cs RES.2.2.2.1=true∧RES.2.1≤RES.1.p∧RES.1.fit B.length:=fun e0=>by
  have hsk:s.k=0:=by
   by_cases hk:s.k=0
   ·exact hk
   ·unfold Abn at hres
    rw[Ai hk] at hres;rw[←hres] at e0;exact e0
  unfold Abn at hres;rw[Ag hsk] at hres;have e1:=OM hR.f (ep:=(e:Int)) (B.length+1) s [] [] true (hsf hsk) zC (Ar _);have e2:=Abj (ep:=(e:Int)) (blk:=blk) (B.length+1) s [] [] true (hsf hsk) zC;rw[hres] at e1 e2;obtain⟨t,_,_,_,_,e6,e7,_⟩:=e1 e0;exact⟨e7,e2 e0,e6⟩
 have HN:=hid (fun (W:World) (hW:Below w.heap.size w W)=>Lo W B a _ c (lift hl hW));have HHR:=hid (fun (V:World) (gc:Nat) (hV:AS V gc B a ⟨0,0,0⟩)=>(by have:=Rx V hV hB;rw[hh] at this;exact this:Calls Tryz.prog 123 #[.pointer (some ⟨gc,0,none⟩)] V fun r w'=>r=.returned (.agg #[.int .i64 (v:Int),.int .u64 (e:Int),.int .u64 (b:Int)])∧AE V gc B a h0 w'));have HRR:=hid hR;have HOK:=hid hok;have HSF:=hid hsf;have HWAY:=hid hway;have HZ:=hid hz;have HRES:=hid hres;have HS:=hid hs;clear hl hh hD hs hres hz hway hok hR hsf hhf;go_enter Tryz.func71,Tryz.ntmps71;go_upto_region 1 with (fail);have hR0:Blk ((w.alloc (.cells #[.int .u64 0,.slice none 0 0] 63)).alloc (.cells #[.int .i64 0,.int .i64 0] 65)) w.heap.size 63 #[.int .u64 0,.slice none 0 0]:=zD;have hF0:Blk ((w.alloc (.cells #[.int .u64 0,.slice none 0 0] 63)).alloc (.cells #[.int .i64 0,.int .i64 0] 65)) (w.heap.size+1) 65 #[.int .i64 0,.int .i64 0]:=zD;have hb0:Below w.heap.size w ((w.alloc (.cells #[.int .u64 0,.slice none 0 0] 63)).alloc (.cells #[.int .i64 0,.int .i64 0] 65)):=zA;generalize ((w.alloc (.cells #[.int .u64 0,.slice none 0 0] 63)).alloc (.cells #[.int .i64 0,.int .i64 0] 65))=w0 at*;have hz0:w.heap.size+1<w0.heap.size:=hF0.lt;go_wp2_with fail;refine (HN.out w0 hb0).mono ?_;rintro r w1 ⟨rfl,hr1,hb1⟩;have HR1:=hid (hR0.later hb1);have HF1:=hid (hF0.later hb1);have HB1:=hid (Aj hb1 hb0);have hgc1:w0.heap.size<w1.heap.size:=hr1.blk.lt;obtain⟨gc,hgc⟩:∃gc,gc=w0.heap.size:=⟨_,rfl⟩;rw[←hgc] at hr1 hgc1;have hgcw:w.heap.size+1<gc:=zC;have HD1:=hid hr1;clear hr1 hb1 hb0 hR0 hF0 HN hz0;generalize w0.heap.size=zzgc at*;subst hgc;go_upto_region 2 with (fail);have hbA:Below w1.heap.size w1 (w1.alloc (.cells #[.pointer (some ⟨gc,0,none⟩),.int .u64 0,.slice none 0 0,.slice none 0 0,.bool true,.int .i64 0] 166)):=zA;have HINA:=hid ((CS.refl HD1.out).row hbA);have HGR:=hid (show Blk (w1.alloc (.cells #[.pointer (some ⟨gc,0,none⟩),.int .u64 0,.slice none 0 0,.slice none 0 0,.bool true,.int .i64 0] 166)) w1.heap.size 166 #[.pointer (some ⟨gc,0,none⟩),.int .u64 0,.slice none 0 0,.slice none 0 0,.bool true,.int .i64 0] from Blk.new _ _ _);generalize (w1.alloc (.cells #[.pointer (some ⟨gc,0,none⟩),.int .u64 0,.slice none 0 0,.slice none 0 0,.bool true,.int .i64 0] 166))=w2 at*;have hz2:w1.heap.size<w2.heap.size:=HGR.out.lt;clear hbA HD1;obtain⟨y0,y1,y2,y3,y4,y5,ly⟩:=Aa6 HGR.out;go_wp2_with fail;refine (HHR.out w2 gc HINA.out.rd).mono ?_;rintro r w3 ⟨rfl,hst3⟩;have hbB:Below w3.heap.size w3 (w3.alloc (.cells #[.int .i64 (v:Int),.int .u64 (e:Int),.int .u64 (b:Int)] 167)):=zA;have HIN4:=hid ((HINA.out.step hst3).row (hbB.mono (HINA.out.step hst3).tch.size));have HGR4:=hid ((HGR.out.tch hst3.2 zC).later hbB);have HGH:=hid (show Blk (w3.alloc (.cells #[.int .i64 (v:Int),.int .u64 (e:Int),.int .u64 (b:Int)] 167)) w3.heap.size 167 #[.int .i64 (v:Int),.int .u64 (e:Int),.int .u64 (b:Int)] from Blk.new _ _ _);have hz3:w2.heap.size≤w3.heap.size:=hst3.2.size;clear hst3 hbB HINA HGR y0 y1 y2 y3 y4 y5 ly;go_upto_region 3 with (fail);generalize (w3.alloc (.cells #[.int .i64 (v:Int),.int .u64 (e:Int),.int .u64 (b:Int)] 167))=w4 at*;obtain⟨gh,hgh⟩:∃gh,gh=w3.heap.size:=⟨_,rfl⟩;rw[←hgh] at HGH hz3;generalize w3.heap.size=zzgh at*;subst hgh;obtain⟨x0,x1,x2,x3,x4,x5,lx⟩:=KV HGH.out;obtain⟨y0,y1,y2,y3,y4,y5,ly⟩:=Aa6 HGR4.out;go_upto_if 21 with (fail);generalize hnb:(((v:Nat):Int) !=(3:Int))=nb at*;have HNB:=hid hnb;clear hnb;go_cut [] from 22 to 26 (fun V=>Hid (CS w1 V gc B a s)∧Hid (Blk V w1.heap.size 166 #[.pointer (some ⟨gc,0,none⟩),.int .u64 0,.slice none 0 0,.slice none 0 0,.bool true,.int .i64 0])∧Hid (Blk V gh 167 #[.int .i64 (v:Int),.int .u64 (e:Int),.int .u64 (b:Int)]))
 case first=>
  cases nb
  ·have hv:v=3:=by have h0:=HNB.out;simp at h0;omega
   have hs:=HS.out;rw[Ag hv] at hs;subst hs;clear hv;go_wp2_with fail;go_meet
   case rel=>exact ⟨HIN4,HGR4,HGH⟩
  ·have hv:¬v=3:=by have h0:=HNB.out;simp at h0;omega
   have hs:=HS.out;rw[Ai hv] at hs;have HFL:=hid (fun (V:World) (hV:AS V gc B a h0)=>(by have:=Bx V hV 8 4 zL;rw[hs] at this;exact this:Calls Tryz.prog 124 #[.pointer (some ⟨gc,0,none⟩),.int .i64 8,.int .i64 4] V fun r w'=>r=.returned (.tuple #[])∧AE V gc B a s w'));clear hs hv;go_wp2_with fail;refine (HFL.out _ HIN4.out.rd).mono ?_;rintro r w5 ⟨rfl,hst5⟩;have hI:=hid (HIN4.out.step hst5);have hG:=hid (HGR4.out.tch hst5.2 zC);have hH:=hid (HGH.out.tch hst5.2 zC);go_wp2_with fail;go_meet
   case rel=>exact ⟨hI,hG,hH⟩
 case rest=>
  obtain⟨HIN5,HGR5,HGH5⟩:=hcut;clear HIN4 HGR4 HGH x0 x1 x2 x3 x4 x5 lx y0 y1 y2 y3 y4 y5 ly;generalize hW5:wc=W5 at*;obtain⟨x0,x1,x2,x3,x4,x5,lx⟩:=KV HGH5.out;obtain⟨y0,y1,y2,y3,y4,y5,ly⟩:=Aa6 HGR5.out;obtain⟨z0,z1,z2,z3,z4,z5⟩:=Abr HGR5.out;have HSR:=hid (EI.start (ep:=(e:Int)) (HIN5.out.row (show Below w1.heap.size W5 (W5.setCell ⟨w1.heap.size,1,none⟩ (.int .u64 (e:Int))) from (Aa2 _ _).setCell zH _)) (HGR5.out.set 1 _) (As _));have HRC:=hid (fun (V:World) (fi0:Int) (T0:Nat) (h:EI w1 w1.heap.size gc B a s (e:Int) (.slice none 0 0) [] (.slice none 0 0) [] true fi0 T0 V)=>Abx V h hB HSF.out HRR.out HRES.out);go_upto_region 6 with (fail);generalize (W5.setCell ⟨w1.heap.size,1,none⟩ (.int .u64 (e:Int)))=w6 at*;clear HIN5 HGR5 HGH5 x0 x1 x2 x3 x4 x5 lx y0 y1 y2 y3 y4 y5 ly z0 z1 z2 z3 z4 z5 hW5;go_wp2_with fail;refine (HRC.out _ _ _ HSR.out).mono ?_;rintro r w7 ⟨rfl,⟨vL,l,vM,M,q7,fi,T,hi7,he7⟩,hz7⟩;have HI7:=hid hi7;have HE7:=hid he7;clear hi7 he7 HSR HRC;obtain⟨y0,y1,y2,y3,y4,y5,ly⟩:=Aa6 HI7.out.rb;have HGD:=hid (fun (V:World) (hV:AS V gc B a RES.1)=>AK V hV);go_wp2_with fail;refine (HGD.out _ HI7.out.inv.rd).mono ?_;rintro r w8 ⟨rfl,hb8⟩;have HI8:=hid (HI7.out.later hb8);clear hb8 HI7 HGD y0 y1 y2 y3 y4 y5 ly;go_upto_if 40 with (fail);generalize hnk:decide (RES.1.k=0)=nk at*;have HNK:=hid hnk;clear hnk;go_cut [] from 41 to 42 (fun V=>∃(fi':Int) (T':Nat),Hid (EI w1 w1.heap.size gc B a z (e:Int) vL l vM M q7 fi' T' V)∧Hid (z.k=0→l=RES.2.2.1∧q7=RES.2.2.2.2))
  case first=>
   cases nk;rotate_left
   ·have hk:RES.1.k=0:=C8 HNK.out
    have hz:=HZ.out;rw[Ag hk] at hz;obtain⟨o1,o2,o3⟩:=HOK.out hk;obtain⟨e1,e2,e3,e4⟩:=HE7.out hk;subst e1 e2 e3 e4;have HEN:=hid (fun (V:World) (fi0:Nat) (hfi:fi0=RES.2.1) (hV:EI w1 w1.heap.size gc B a RES.1 (e:Int) vL RES.2.2.1 vM RES.2.2.2.1 RES.2.2.2.2 (fi0:Int) T V)=>(by subst hfi;have:=Aci V hV hB o1 o2 o3;rw[hz] at this;exact this:Calls Tryz.prog 126 #[.pointer (some ⟨w1.heap.size,0,none⟩)] V fun r W'=>r=.returned (.tuple #[])∧(∃fi' T',EI w1 w1.heap.size gc B a z (e:Int) vL RES.2.2.1 vM RES.2.2.2.1 RES.2.2.2.2 fi' T' W')∧V.heap.size≤W'.heap.size));clear hz hk o1 o2 o3;go_wp2_with fail;refine (HEN.out _ _ rfl HI8.out).mono ?_;rintro r w9 ⟨rfl,⟨fi9,T9,hi9⟩,hz9⟩;have HI9:=hid hi9;clear hi9 hz9 HI8 HEN;go_wp2_with fail;go_meet
    case rel=>exact ⟨fi9,T9,HI9,hid fun _=>⟨by first | rfl | exact True.intro,by first | rfl | exact True.intro⟩⟩
   ·have hk:¬RES.1.k=0:=GD HNK.out
    have hz:=HZ.out;rw[Ai hk] at hz;have HKK:=hid hk;rw[hz] at HI8 HKK;clear hz hk;go_wp2_with fail;go_meet
    case rel=>exact ⟨fi,T,HI8,hid fun e0=>absurd e0 HKK.out⟩
  case rest=>
   obtain⟨fi9,T9,HI9,HE9⟩:=hcut;clear HI8 HE7;generalize hW9:wc=W9 at*;have HFT:=hid (H7 W9 HI9.out.inv.rd);obtain⟨y0,y1,y2,y3,y4,y5,ly⟩:=Aa6 HI9.out.rb;have HRg:=hid (HR1.out.tch HI9.out.inv.tch zC);have HFg:=hid (HF1.out.tch HI9.out.inv.tch zC);have HBg:=hid (HB1.out.trans (HI9.out.inv.tch.Ch HB1.out.size fun x _ e0=>zC));have hz9:=HI9.out.inv.tch.size;go_wp2_with fail;refine HFT.out.mono ?_;rintro r w10 ⟨rfl,hb10⟩;have hbC:Below w10.heap.size w10 (w10.alloc (.cells #[.int .i64 z.k,.int .i64 z.f] 65)):=zA;have HI11:=hid ((HI9.out.later hb10).later hbC);have HR11:=hid ((HRg.out.later hb10).later hbC);have HF11:=hid ((HFg.out.later hb10).later hbC);have HB11:=hid (Aj hbC (Aj hb10 HBg.out));have HX11:=hid (show Blk (w10.alloc (.cells #[.int .i64 z.k,.int .i64 z.f] 65)) w10.heap.size 65 #[.int .i64 z.k,.int .i64 z.f] from Blk.new _ _ _);have hz10:=hb10.size;clear hb10 hbC HI9 HRg HFg HBg HR1 HF1 HB1 HFT y0 y1 y2 y3 y4 y5 ly hW9;go_upto_region 10 with (fail);generalize (w10.alloc (.cells #[.int .i64 z.k,.int .i64 z.f] 65))=w11 at*;obtain⟨gx,hgx⟩:∃gx,gx=w10.heap.size:=⟨_,rfl⟩;rw[←hgx] at HX11 hz10;generalize w10.heap.size=zzgx at*;subst hgx;obtain⟨x0,x1,x2,x3,lx⟩:=Bd HX11.out;have HGO:=hid (fun (V:World)=>BK V z.k z.f);obtain⟨cL,hcL⟩:=HI11.out.ownL;obtain⟨aL,cLL,rfl⟩:=AV hcL.1;clear hcL;by_cases hk:z.k=0
   ·rw[Ad hk] at HGO
    have hw:=HWAY.out;rw[Ag hk] at hw;obtain⟨e1,e2⟩:=HE9.out hk;simp only[BF] at hw;obtain⟨rfl,rfl,rfl,rfl⟩:=hw;subst e1 e2;clear hk;go_wp2_with fail;refine (HGO.out _).mono ?_;rintro r w12 ⟨rfl,hb12⟩;have HI12:=hid (HI11.out.later hb12);have HR12:=hid (HR11.out.later hb12);have HF12:=hid (HF11.out.later hb12);have HB12:=hid (Aj hb12 HB11.out);clear hb12 HI11 HR11 HF11 HB11 HX11 x0 x1 x2 x3 lx;obtain⟨y0,y1,y2,y3,y4,y5,ly⟩:=Aa6 HI12.out.rb;obtain⟨q0,q1,q2,q3,lq⟩:=Bd HR12.out;obtain⟨p0,p1,p2,p3,lp⟩:=Bd HF12.out;have hrd:DN.r (fun x=>w1.heap.size≤x∧x<w12.heap.size) w12 [.slice aL RES.2.2.1.length cLL] RES.2.2.1:=by
     obtain⟨c2,hc2⟩:=HI12.out.ownL;have h2:=HI12.out.t2;refine DN.mono hc2.slice fun x e0=> ?_;rcases e0 with e0 | e0
     ·exact⟨zC,zC⟩
     ·have:=HI12.out.lo.1 x e0
      exact⟨zC,zC⟩
    have HRD:=hid hrd;have hbl:=HB12.out;have hw1:w.heap.size+1<w1.heap.size:=zC;clear hrd HI12 HR12 HF12;go_wp2_with fail;go_region
    all_goals
     go_wp2;refine Ax (v:=.tuple #[.agg #[.int .u64 (e:Int),.slice aL RES.2.2.1.length cLL],.bool RES.2.2.2.2,.agg #[.int .i64 0,.int .i64 0]]) zCf rfl ⟨aL,cLL,rfl,DN.mono (DN.keep HRD.out fun x e0=>zB8) fun x e0=>⟨zC,by have:=e0.2;simpa [World.setCell] using this⟩,zA⟩
   ·rw[Ae hk] at HGO
    have hw:=HWAY.out;rw[Ai hk] at hw;simp only[BF] at hw;obtain⟨rfl,rfl,rfl,rfl⟩:=hw;clear hk;go_wp2_with fail;refine (HGO.out _).mono ?_;rintro r w12 ⟨rfl,hb12⟩;have HR12:=hid (HR11.out.later hb12);have HF12:=hid (HF11.out.later hb12);have HX12:=hid (HX11.out.later hb12);have HB12:=hid (Aj hb12 HB11.out);clear hb12 HI11 HR11 HF11 HB11 HX11 x0 x1 x2 x3 lx;obtain⟨x0,x1,x2,x3,lx⟩:=Bd HX12.out;obtain⟨q0,q1,q2,q3,lq⟩:=Bd HR12.out;obtain⟨p0,p1,p2,p3,lp⟩:=Bd HF12.out;have hbl:=HB12.out;clear HR12 HF12 HX12;go_wp2_with fail;go_region
    all_goals
     go_wp2;refine Ax (v:=.tuple #[.agg #[.int .u64 0,.slice none 0 0],.bool false,.agg #[.int .i64 z.k,.int .i64 z.f]]) zCf rfl ⟨none,0,rfl,Bv (xs:=[]) rfl (As _) (Ar _) (.inl rfl),zA⟩
theorem Acf{P:List UInt8}(h:(Rs.batch P (Eb P) s).1.k=0):(Rs.batch P (Eb P) s).2.2=true:=by
 unfold Rs.batch at h ⊢;dsimp only at h ⊢;split at h
 ·rename_i h1
  rw[Ag h1];split at h
  ·rename_i h2
   rw[Ag h2];rfl
  ·rename_i h2
   exact absurd h h2
 ·rename_i h1
  exact absurd h h1
theorem Ab6(W:World)(g:Nat)(P:List UInt8)(a:Option Addr)(s:Rs)(hP:P.length≤1000000000)(h:AS W g P a s):Calls Tryz.prog 72 #[.pointer (some ⟨g,0,none⟩)] W fun r w'=>∃v qv,r=.returned (.tuple #[.agg #[.int .u64 (Rs.batch P (Eb P) s).2.1.epoch,.int .u64 (Rs.batch P (Eb P) s).2.1.base,v],.bool qv])∧Br.r (Ie W w') w' [v] (Rs.batch P (Eb P) s).2.1.entries∧((Rs.batch P (Eb P) s).1.k=0→qv=(Rs.batch P (Eb P) s).2.2)∧AE W g P a (Rs.batch P (Eb P) s).1 w':=by
 have hq:=fun h0:(Rs.batch P (Eb P) s).1.k=0=>Acf h0;have HC:=hid (T9 (W.alloc (.cells #[.int .u64 0,.int .u64 0,.slice none 0 0] 48)) (h.later (show Below W.heap.size W (W.alloc (.cells #[.int .u64 0,.int .u64 0,.slice none 0 0] 48)) by (repeat (first | with_reducible exact Aa2 _ _ | with_reducible assumption | (with_reducible refine Aw ?_ _) | (with_reducible refine Aa3 ?_ zE _) | (with_reducible refine Aa5 ?_) | (with_reducible refine Aa4 ?_ _) | (refine Aj zG ?_))))) hP);have hlt:=h.blk.lt;have HIN:=hid (CS.refl h);generalize Rs.batch P (Eb P) s=T at*;obtain⟨s1,x,q1⟩:=T;dsimp only at hq HC ⊢;have HQ:=hid hq;clear h hq;go_enter Tryz.func72,Tryz.ntmps72;have hB0:Blk (W.alloc (.cells #[.int .u64 0,.int .u64 0,.slice none 0 0] 48)) W.heap.size 48 #[.int .u64 0,.int .u64 0,.slice none 0 0]:=Blk.new _ _ _;go_upto_region 1 with (fail);have HIN0:=hid (HIN.out.row (show Below W.heap.size W (W.alloc (.cells #[.int .u64 0,.int .u64 0,.slice none 0 0] 48)) by (repeat (first | with_reducible exact Aa2 _ _ | with_reducible assumption | (with_reducible refine Aw ?_ _) | (with_reducible refine Aa3 ?_ zE _) | (with_reducible refine Aa5 ?_) | (with_reducible refine Aa4 ?_ _) | (refine Aj zG ?_)))));generalize (W.alloc (.cells #[.int .u64 0,.int .u64 0,.slice none 0 0] 48))=w0 at*;have hz0:=hB0.lt;clear HIN;go_wp2_with fail;refine HC.out.mono ?_;rintro r w1 ⟨v,rfl,hr1,hst1⟩;obtain⟨a1,c1,hfv,hr1',hel⟩:=AH (Cu hr1);simp only[Av,AI] at hfv;subst hfv;have hB1:=hB0.tch hst1.2 zC;obtain⟨m0,m1,m2,lm⟩:=E5 hB1;have f0:=hB1.free 0;have f1:=hB1.free 1;have f2:=hB1.free 2;have HR1:=hid hr1';have HIN1:=hid (HIN0.out.step hst1);have hz1:=hst1.2.size;have HIN2:=hid (HIN1.out.row (show Below W.heap.size w1 (((w1.setCell ⟨W.heap.size,0,none⟩ (.int .u64 x.epoch)).setCell ⟨W.heap.size,1,none⟩ (.int .u64 x.base)).setCell ⟨W.heap.size,2,none⟩ (.slice a1 x.entries.length c1)) from (((Aa2 _ _).setCell zH _).setCell zH _).setCell zH _));clear hr1 hr1' hst1 hB0 hB1 HC HIN0 HIN1;go_wp2_with fail;refine Ax (v:=.tuple #[.agg #[.int .u64 x.epoch,.int .u64 x.base,.slice a1 x.entries.length c1],.bool true]) (by simp[results,Tryz.results72,go_sem,m0,m1,m2,lm]) rfl ⟨_,true,rfl,Br.mono (Br.keep HR1.out fun b e=>(by have h1:w0.heap.size≤b:=e.1;repeat (first | rfl | rw[At _ _ _ _ zH]))) fun b e=>⟨zX,by have:=e.2;simpa [World.setCell] using this⟩,fun e=>(HQ.out e).symm,HIN2.out.to⟩
theorem Acq:Acj 72 bS:=⟨fun xs W=>ZW,fun W g P a s hP h=>Ab6 W g P a s hP h,YE⟩
theorem Aby(w:World)(B:List UInt8)(a:Option Addr)(n c:Nat)(hl:Am.r (·<w.heap.size) w [.slice a n c] B)(hB:B.length≤1000000000){g:Seg}(hD:TY B=(g,q,k,f)):
  Calls Tryz.prog 34 #[.slice a n c] w fun r w'=>∃a' c',r=.returned (.tuple #[.agg #[.int .u64 g.epoch,.slice a' g.batches.length c'],.agg #[.int .i64 k,.int .i64 f]])∧DN.r (fun x=>w.heap.size≤x∧x<w'.heap.size) w' [.slice a' g.batches.length c'] g.batches∧Below w.heap.size w w':=by
 obtain⟨rfl,hmx,hcc,hcm⟩:=AL hl;have HD:=hid (fun (W:World) (hW:Below w.heap.size w W)=>AbF W B a _ c (lift hl hW) hB Acq hD);clear hl hD;go_enter Tryz.func34,Tryz.ntmps34;go_upto_region 1 with (fail);have hR0:Blk ((w.alloc (.cells #[.int .u64 0,.slice none 0 0] 63)).alloc (.cells #[.int .i64 0,.int .i64 0] 65)) w.heap.size 63 #[.int .u64 0,.slice none 0 0]:=zD;have hF0:Blk ((w.alloc (.cells #[.int .u64 0,.slice none 0 0] 63)).alloc (.cells #[.int .i64 0,.int .i64 0] 65)) (w.heap.size+1) 65 #[.int .i64 0,.int .i64 0]:=zD;have hb0:Below w.heap.size w ((w.alloc (.cells #[.int .u64 0,.slice none 0 0] 63)).alloc (.cells #[.int .i64 0,.int .i64 0] 65)):=zA;generalize ((w.alloc (.cells #[.int .u64 0,.slice none 0 0] 63)).alloc (.cells #[.int .i64 0,.int .i64 0] 65))=w0 at*;have hz0:w.heap.size+1<w0.heap.size:=hF0.lt;go_wp2_with fail;refine (HD.out w0 hb0).mono ?_;rintro r w1 ⟨a1,c1,rfl,hr1,hb1⟩;have hR1:=hR0.later hb1;have hF1:=hF0.later hb1;have hbl1:=Aj hb1 hb0;have hz1:=hb1.size;have HRD:=hid hr1;clear hR0 hF0 hb0 hb1 hr1 HD;have hb2:Below w1.heap.size w1 ((w1.alloc (.cells #[.int .u64 g.epoch,.slice a1 g.batches.length c1] 63)).alloc (.cells #[.int .i64 k,.int .i64 f] 65)):=zA;have hX2:Blk ((w1.alloc (.cells #[.int .u64 g.epoch,.slice a1 g.batches.length c1] 63)).alloc (.cells #[.int .i64 k,.int .i64 f] 65)) w1.heap.size 63 #[.int .u64 g.epoch,.slice a1 g.batches.length c1]:=zD;have hY2:Blk ((w1.alloc (.cells #[.int .u64 g.epoch,.slice a1 g.batches.length c1] 63)).alloc (.cells #[.int .i64 k,.int .i64 f] 65)) (w1.heap.size+1) 65 #[.int .i64 k,.int .i64 f]:=zD;have hR2:=hR1.later hb2;have hF2:=hF1.later hb2;have hbl2:=Aj hb2 hbl1;have HR2:=hid (DN.keep HRD.out (w':=((w1.alloc (.cells #[.int .u64 g.epoch,.slice a1 g.batches.length c1] 63)).alloc (.cells #[.int .i64 k,.int .i64 f] 65))) fun x e=>hb2.block x e.2);have hz2:=hb2.size;go_upto_region 2 with (fail);generalize ((w1.alloc (.cells #[.int .u64 g.epoch,.slice a1 g.batches.length c1] 63)).alloc (.cells #[.int .i64 k,.int .i64 f] 65))=w2 at*;obtain⟨x0,x1,x2,x3,lx⟩:=Bd hX2;obtain⟨y0,y1,y2,y3,ly⟩:=Bd hY2;obtain⟨q0,q1,q2,q3,lq⟩:=Bd hR2;obtain⟨p0,p1,p2,p3,lp⟩:=Bd hF2;clear hX2 hY2 hR2 hF2 hR1 hF1 hb2 HRD;go_wp2_with fail;go_region
 all_goals
  go_wp2;refine Ax (v:=.tuple #[.agg #[.int .u64 g.epoch,.slice a1 g.batches.length c1],.agg #[.int .i64 k,.int .i64 f]]) (by simp[results,Tryz.results34,go_sem,q0,q1,p0,p1,lq,lp]) rfl ⟨a1,c1,rfl,DN.mono (DN.keep HR2.out fun x e0=>zB8) fun x e0=>⟨zC,by have:=e0.2;have h4:x<w2.heap.size:=zC;simpa [World.setCell] using h4⟩,zA⟩
theorem AbA(w:World)(B:List UInt8)(a:Option Addr)(c0 c:Nat)(hl:Am.r (·<w.heap.size) w [.slice a c0 c] B)(hB:B.length≤10000):
  Calls Tryz.prog 32 #[.slice a c0 c] w fun r w'=>∃q,r=.returned (.bool q)∧Below w.heap.size w w':=by
 obtain⟨rfl,hmx,hcc,hcm⟩:=AL hl;have HL:=hid hl;clear hl;go_enter Tryz.func32,Tryz.ntmps32;go_wp2_with fail;go_loopw [3] (fun i wr=>∃p:Nat,p≤B.length∧i=.int .i64 p∧Below w.heap.size w wr) (fun i _=>B.length-(intOf i).toNat)
 case atStart=>exact ⟨0,Ar _,rfl,Aa2 _ _⟩
 case round=>
  obtain⟨p0,hp0,rfl,hb0⟩:=hrel;by_cases hlt0:p0<B.length
  ·have e1:decide ((p0:Int)<(B.length:Int))=true:=Ad zC
   by_cases h40:p0<40
   ·have e2:decide ((p0:Int)<(40:Int))=true:=Ad zC
    obtain⟨wo,hwo⟩:∃wo:World,wo=wr:=⟨_,rfl⟩;subst hwo;go_wp2_with fail;go_loopw [4] (fun i wr=>∃p:Nat,p≤B.length∧i=.int .i64 p∧Below w.heap.size w wr) (fun i _=>B.length-(intOf i).toNat)
    case atStart=>exact ⟨p0,zC,rfl,hb0⟩
    case round=>
     obtain⟨p,hp,rfl,hb⟩:=hrel;clear hb0;by_cases hlt:p<B.length
     ·have i1:(p:Int)<(B.length:Int):=by omega
      have d1:decide ((p:Int)<(B.length:Int))=true:=Ad i1;obtain⟨A',c',hcut,hrd⟩:=Aar (lift HL.out hb) (lo:=p) hp;have hrd2:Am.r (·<wr.heap.size) wr [.slice A' (B.drop p).length c'] (B.drop p):=by rw[CA];exact hrd
      have hdl:(B.drop p).length≤10000:=zI;have HF:=hid (AbM wr A' c' (B.drop p) hrd2 ⟨0,0,0⟩ ⟨Ar _,fun _=>rfl⟩ zC 1500 zL);have hpos:=Ab8 (B:=B.drop p) (m:=1500);have hle:=Ace (B:=B.drop p) (m:=1500);have hlen:=Ab9 (B:=B.drop p) (m:=1500);have hdr:(B.drop p).length=B.length-p:=CA ..;rw[hdr] at HF hle;generalize (⟨0,0,0⟩:Rs).frame (B.drop p) 1500=T at*;obtain⟨s,D⟩:=T;dsimp only at HF hpos hle hlen;unfold CV at HF;have HB:=hid hb;have HDR:=hid hdr;clear hrd hrd2 hb hdl hdr;go_wp2_with fail;refine HF.out.mono ?_;rintro r w1 ⟨v,rfl,hr,hb1⟩;obtain⟨aD,cD,hfv,hr2,_⟩:=AH hr;simp only[Av,AI] at hfv;subst hfv;have hb2:Below w1.heap.size w1 (w1.alloc (.cells #[.slice A' (B.length-p) c',.int .i64 (s.p:Int),.int .i64 s.k,.int .i64 s.f] 91)):=zA;have HC2:Hid (Blk (w1.alloc (.cells #[.slice A' (B.length-p) c',.int .i64 (s.p:Int),.int .i64 s.k,.int .i64 s.f] 91)) w1.heap.size 91 #[.slice A' (B.length-p) c',.int .i64 (s.p:Int),.int .i64 s.k,.int .i64 s.f]):=hid (Blk.newAt _ _ _ rfl);have HD2:=hid (lift (Am.mono hr2 (S':=(·<w1.heap.size)) fun q hq=>hq.2) hb2);have hbw2:=Aj hb2 (Aj hb1 HB.out);clear hr hr2 hb1 hb2 HF;obtain⟨x0,x1,x2,x3,f0,f1,f2,f3,l0⟩:=Aa8 HC2.out;go_upto_region 7 with (fail);generalize (w1.alloc (.cells #[.slice A' (B.length-p) c',.int .i64 (s.p:Int),.int .i64 s.k,.int .i64 s.f] 91))=w2 at*;by_cases hk:s.k=0
      ·have dk:(s.k !=(0:Int))=false:=by simp[hk]
       have hp4:=hpos hk;clear hk hpos;have hdm:=(AL HD2.out).2.1;by_cases h1:1<D.length
       ·have g1:decide ((1:Int)<(D.length:Int))=true:=Ad zC
        obtain⟨b0,o0,hA0,_,hc0⟩:=Dg HD2.out (i:=0) zC;obtain⟨A2,c2,hcut2,hrd2⟩:=Aar HD2.out (lo:=1) zC;have HG:=hid (AbB w2 (D.drop 1) A2 _ c2 hrd2 (by rw[CA];omega));have hcut3:∀w':World,(Instr.slice 22 (.slice aD D.length cD) (some (.int .i64 1)) none none).run Tryz.prog w'=.ok (.slice A2 (D.length-1) c2) w':=hcut2;have i0:(0:Int)≤(D.length:Int):=zC;have i2:(0:Int)<(D.length:Int):=zC;subst hA0;rw[Ed] at hc0;generalize ((D[0]).toNat:Int)=x at*;clear hcut2 hrd2;by_cases hx:x=1
        ·have g2:(x==(1:Int))=true:=by simp[hx]
         clear hx;go_wp2_with fail;refine HG.out.mono ?_;rintro r w3 ⟨q0,rfl,rfl⟩;cases q0
         ·go_wp2_with fail
          go_roundw
          case rel=>exact ⟨p+s.p,zC,zT,hbw2⟩
          case measure=>(simp[intOf];try omega)
         ·go_wp2_with fail
          go_ret;exact⟨_,rfl,hbw2⟩
        ·have g2:(x==(1:Int))=false:=by simp[hx]
         clear hx;go_wp2_with fail;go_roundw
         case rel=>exact ⟨p+s.p,zC,zT,hbw2⟩
         case measure=>(simp[intOf];try omega)
       ·have g1:decide ((1:Int)<(D.length:Int))=false:=Ae zC
        go_wp2_with fail;go_roundw
        case rel=>exact ⟨p+s.p,zC,zT,hbw2⟩
        case measure=>(simp[intOf];try omega)
      ·have dk:(s.k !=(0:Int))=true:=by simp[hk]
       clear hk hpos;go_wp2_with fail;go_roundw
       case rel=>exact ⟨p0+1,zC,zT,hbw2⟩
       case measure=>(simp[intOf];try omega)
     ·obtain rfl:p=B.length:=by omega
      have d1:decide ((B.length:Int)<(B.length:Int))=false:=Ae zC;go_wp2_with fail;go_roundw
      case rel=>exact ⟨p0+1,zC,zT,hb⟩
      case measure=>(simp[intOf];try omega)
   ·have e2:decide ((p0:Int)<(40:Int))=false:=Ae zC
    go_wp2_with fail;go_ret;exact⟨_,rfl,hb0⟩
  ·obtain rfl:p0=B.length:=by omega
   have e1:decide ((B.length:Int)<(B.length:Int))=false:=Ae zC;go_wp2_with fail;go_ret;exact⟨_,rfl,hb0⟩
theorem Acb{B:Nat}{W:World}{E:Nat}{ds:Array Value}(h:Below B w W)(hB:B≤W.heap.size)(hE:B≤E):Below B w (W.setRow E ds):=
 h.trans ((Tch.row W E ds).Ch hB fun b _ e=>by have e:b=E:=e;omega)
theorem Acd{g:Seg}{c:Nat}:Below w.heap.size w ((w.alloc (.cells #[.int .u64 g.epoch,.slice a g.batches.length c] 63)).alloc (.cells #[.int .i64 k,.int .i64 f] 65))∧Blk ((w.alloc (.cells #[.int .u64 g.epoch,.slice a g.batches.length c] 63)).alloc (.cells #[.int .i64 k,.int .i64 f] 65)) w.heap.size 63 #[.int .u64 g.epoch,.slice a g.batches.length c]∧Blk ((w.alloc (.cells #[.int .u64 g.epoch,.slice a g.batches.length c] 63)).alloc (.cells #[.int .i64 k,.int .i64 f] 65)) (w.heap.size+1) 65 #[.int .i64 k,.int .i64 f]:=⟨zA,zD,zD⟩
structure Ack(S:List UInt8)(g:Seg)(k f:Int)(EL:List EvX)(y:EvX):Prop where
 all:(OB S true).map EvB.x=EL++[y]
 bat:k=0→EL.map EvX.batch=g.batches
 one:k=0→∀(i:Nat) (h:i<EL.length),EL[i].kind=1
 fin:k=0→y.kind=2∧y.at_=S.length
 bad:k≠0→3≤y.kind∧y.code=k∧y.at_=f
theorem AbX(S:List UInt8){g:Seg}(h:TY S=(g,q,k,f)):∃EL y,Ack S g k f EL y:=by
 obtain⟨L,e,h1,h2,h3⟩:=AbT S h;refine⟨L.map EvB.x,e.x,by rw[h1,Cv];rfl,fun hk=> ?_,fun hk i hi=> ?_,fun hk=> ?_,fun hk=>h3 hk⟩
 ·rw[List.map_map]
  exact (h2 hk).1
 ·rw[List.getElem_map]
  exact (h2 hk).2.1 _ (A0 _)
 ·rw[(h2 hk).2.2]
  exact⟨rfl,rfl⟩
def AbE(w4:World)(g:Seg)(k:Nat)(wr:World):Prop:=
 ∃aL cL cells,Blk wr w4.heap.size 63 #[.int .u64 g.epoch,.slice aL k cL]∧AY (·<w4.heap.size) Gv (w4.heap.size+1) 48 3 wr (.slice aL k cL) (g.batches.take k) cells∧Below w4.heap.size w4 wr
theorem AbE.next{w4:World}{g:Seg}{k:Nat}{wr w6:World}{aL:Option Addr}{cL:Nat}{cells:List (List Value)}{v':Value}{x:Batch}{a5:Option Addr}{c5:Nat}
 (hs:Blk wr w4.heap.size 63 #[.int .u64 g.epoch,.slice aL k cL]) (ho:AY (·<w4.heap.size) Gv (w4.heap.size+1) 48 3 wr (.slice aL k cL) (g.batches.take k) cells) (hb:Below w4.heap.size w4 wr)
 (hk:k<g.batches.length) (hx:x=g.batches[k]) (he:inU x.epoch) (hba:inU x.base) (hen:Br.r (·<w4.heap.size) w4 [.slice a5 x.entries.length c5] x.entries)
 (hown:w6.ownsRow (w4.heap.size+1) 48 3 v' (k+1) (cells.flatten++[.int .u64 x.epoch,.int .u64 x.base,.slice a5 x.entries.length c5])) (hgr:(wr.alloc (.cells #[.int .u64 x.epoch,.int .u64 x.base,.slice a5 x.entries.length c5] 48)).grownBy w6 (Value.slice aL k cL).ownBlock)
 (hat:v'.ownBlock=(Value.slice aL k cL).ownBlock∨v'.ownBlock=some (wr.alloc (.cells #[.int .u64 x.epoch,.int .u64 x.base,.slice a5 x.entries.length c5] 48)).heap.size):
  AbE w4 g (k+1) (w6.setCell ⟨w4.heap.size,1,none⟩ v')∧Blk w6 w4.heap.size 63 #[.int .u64 g.epoch,.slice aL k cL]:=by
 have hlk:(g.batches.take k).length=k:=ZB;have hgl:w4.heap.size<wr.heap.size:=hs.lt;have hlo:∀q,(Value.slice aL k cL).ownBlock=some q→w4.heap.size+1≤q∧q<wr.heap.size:=fun q e=>BP ho.1 q e;have hbn:Below wr.heap.size wr (wr.alloc (.cells #[.int .u64 x.epoch,.int .u64 x.base,.slice a5 x.entries.length c5] 48)):=zA;have ho2:=AY.keep ho (w':=wr.alloc (.cells #[.int .u64 x.epoch,.int .u64 x.base,.slice a5 x.entries.length c5] 48)) (fun b e=>hbn.block b (by have:b<w4.heap.size:=e;omega)) (fun q e=>hbn.block q (hlo q e).2);have hblk6:Blk w6 w4.heap.size 63 #[.int .u64 g.epoch,.slice aL k cL]:=(hs.later hbn).grown hgr (fun e=>by have:=(hlo _ e.symm).1;omega);have hbx:Below w4.heap.size w4 (wr.alloc (.cells #[.int .u64 x.epoch,.int .u64 x.base,.slice a5 x.entries.length c5] 48)):=Aj hbn hb;have hp:=AY.push (x:=x) ho2 (fun b e=>by have:b<w4.heap.size:=e;have:=hbn.size;omega) rfl (XH he hba (Br.mono (Br.keep hen (w':=wr.alloc (.cells #[.int .u64 x.epoch,.int .u64 x.base,.slice a5 x.entries.length c5] 48)) fun q e=>hbx.block q e) fun q e=>⟨e,fun e2=>by have:=(hlo q e2).1;have:q<w4.heap.size:=e;omega⟩)) (by rw[hlk];exact hown) hgr hat;rw[show g.batches.take k++[x]=g.batches.take (k+1) by rw[hx,←AU hk]] at hp;obtain⟨aN,cN,hv⟩:=AV hown;subst hv;refine⟨⟨aN,cN,_,by have:=hblk6.set 1 (.slice aN (k+1) cN);exact this,AY.keep hp (fun b e=>At _ _ _ _ (by have:b<w4.heap.size:=e;dsimp only;omega)) (fun q e=>At _ _ _ _ (by have:=(BP hown q e).1;dsimp only;omega)),?_⟩,hblk6⟩;exact (Below.grown hbx hgr (by have:=hbn.size;omega) (fun q e=>by have:=(hlo q e).1;omega)).setCell (As _) _
set_option maxHeartbeats 12800000 in
theorem AbC(B:List UInt8)(a:Option Addr)(n c:Nat)(w:World)(hl:Am.r (·<w.heap.size) w [.slice a n c] B):
  Calls Tryz.prog 13 #[.slice a n c] w fun r w'=>r=.returned (.bool true)∧Below w.heap.size w w':=by
 obtain⟨rfl,hm,_,_⟩:=AL hl;have HLV:=hid Aak;have HL:=hid hl;by_cases h800:B.length≤800
 ·have d0:decide ((800:Int)<(B.length:Int))=false:=Ae zC
  have d0n:decide (800<B.length)=false:=Ae zC;have HHV:=hid (AbA w B a _ c hl zC);generalize hS:TY B=S at*;obtain⟨g,q,k,f⟩:=S;obtain⟨EL,y,hW⟩:=AbX B hS;have HW:=hid hW;have hel:EL.length≤B.length:=by
   have e1:=A3 List.length hW.all;have e2:=A3 List.length (Pm B zC).2;have e3:=(NJ B Db Qa).2.2;have e4:=TZ (Bh Db B).1;rw[Al] at e1 e2;rw[FA] at e1;simp only[Ay,AZ] at e1;omega
  have hel8:EL.length≤800:=zC;have HDS:=hid (fun (V:World) (h:Am.r (·<V.heap.size) V [.slice a B.length c] B)=>Aby V B a _ c h zC hS);have HAL:=hid (fun (V:World) (h:Am.r (·<V.heap.size) V [.slice a B.length c] B)=>VG V B a _ c h zC);rw[hW.all] at HAL;clear hl hS h800 hW;go_enter Tryz.func13,Tryz.ntmps13;go_wp2_with fail;refine HHV.out.mono ?_;rintro r w0 ⟨q0,rfl,hb0⟩;have HB0:=hid hb0;clear hb0 HHV;cases q0
  ·go_wp2_with fail
   refine (HAL.out _ (lift HL.out HB0.out)).mono ?_;rintro r w1 ⟨v1,rfl,hr1,hb1⟩;obtain⟨aE,cE,hfv,hr1',_⟩:=AH hr1;simp only[Av,AI] at hfv;subst hfv;have HB1:=hid (Aj hb1 HB0.out);have HE1:=hid (show Mx.r (·<w1.heap.size) w1 [.slice aE (EL++[y]).length cE] (EL++[y]) from Mx.mono hr1' fun q e=>e.2);have hnl:(EL++[y]).length=EL.length+1:=zM;rw[hnl] at HE1;have HNL:=hid hnl;have hme:EL.length≤9223372036854775806:=by have:=(AL HE1.out).2.1;omega
   rw[hnl];clear hr1 hr1' hb1 HAL HB0 hnl;go_wp2_with fail;refine (HDS.out _ (lift HL.out HB1.out)).mono ?_;rintro r w2 ⟨a2,c2,rfl,hr2,hb2⟩;obtain⟨hbT,hS3,hF3⟩:=Acd (w:=w2) (g:=g) (k:=k) (f:=f) (a:=a2) (c:=c2);have HB3:=hid (Aj hbT (Aj hb2 HB1.out));have HR3:=hid (show DN.r (·<((w2.alloc (.cells #[.int .u64 g.epoch,.slice a2 g.batches.length c2] 63)).alloc (.cells #[.int .i64 k,.int .i64 f] 65)).heap.size) ((w2.alloc (.cells #[.int .u64 g.epoch,.slice a2 g.batches.length c2] 63)).alloc (.cells #[.int .i64 k,.int .i64 f] 65)) [.slice a2 g.batches.length c2] g.batches from lift (DN.mono (S':=(·<w2.heap.size)) hr2 fun q e=>e.2) hbT);have HE3:=hid (lift (lift HE1.out hb2) hbT);have HS3:=hid hS3;have HF3:=hid hF3;clear hr2 hb2 hbT hS3 hF3 HDS HB1 HE1;go_upto_region 5 with (fail);generalize ((w2.alloc (.cells #[.int .u64 g.epoch,.slice a2 g.batches.length c2] 63)).alloc (.cells #[.int .i64 k,.int .i64 f] 65))=w3 at*;generalize w2.heap.size=gA at*;have dz:(((EL.length:Int)+1)==(0:Int))=false:=by rw[BL];omega
   obtain⟨be,oe,hA,_,cs0,_,hX,hE0⟩:=I5 HE3.out (i:=EL.length) zCj;have hgk:(EL++[y])[EL.length]'zCj=y:=zM;rw[hgk] at hE0;obtain⟨a1,c1,a2',c2',a3,c3,a4,c4,a5,c5,rfl,_⟩:=RU hE0;subst hA;have hX':w3.rangeAt be (oe+EL.length*20) (CJ y a1 c1 a2' c2' a3 c3 a4 c4 a5 c5):=hX;have i0':(0:Int)≤(EL.length:Int):=zC;have i1:(EL.length:Int)<(EL.length:Int)+1:=zC;have ONX:=hid (show (CJ y a1 c1 a2' c2' a3 c3 a4 c4 a5 c5).toArray.all (·.oneCell')=true from Array.all_eq_true_iff_forall_mem.2 fun u hu=>Qx u (by simpa using hu));have HINF:=hid (by kernel_rfl:(Tryz.prog.info? 50).map (·.size)=some 20);have HZ:=hid (Blk.new w3 50 #[.int .i64 0,.int .i64 0,.int .i64 0,.int .i64 0,.int .u64 0,.int .u64 0,.int .u64 0,.int .i64 0,.int .i64 0,.slice none 0 0,.slice none 0 0,.slice none 0 0,.int .u64 0,.int .u64 0,.int .u64 0,.int .u64 0,.slice none 0 0,.int .u64 0,.int .u64 0,.slice none 0 0]);have hb4:Below w3.heap.size w3 (World.setRow (w3.alloc (.cells #[.int .i64 0,.int .i64 0,.int .i64 0,.int .i64 0,.int .u64 0,.int .u64 0,.int .u64 0,.int .i64 0,.int .i64 0,.slice none 0 0,.slice none 0 0,.slice none 0 0,.int .u64 0,.int .u64 0,.int .u64 0,.int .u64 0,.slice none 0 0,.int .u64 0,.int .u64 0,.slice none 0 0] 50)) w3.heap.size (CJ y a1 c1 a2' c2' a3 c3 a4 c4 a5 c5).toArray):=Acb zA zM (As _);have HY4:=hid (show Blk (World.setRow (w3.alloc (.cells #[.int .i64 0,.int .i64 0,.int .i64 0,.int .i64 0,.int .u64 0,.int .u64 0,.int .u64 0,.int .i64 0,.int .i64 0,.slice none 0 0,.slice none 0 0,.slice none 0 0,.int .u64 0,.int .u64 0,.int .u64 0,.int .u64 0,.slice none 0 0,.int .u64 0,.int .u64 0,.slice none 0 0] 50)) w3.heap.size (CJ y a1 c1 a2' c2' a3 c3 a4 c4 a5 c5).toArray) w3.heap.size 50 (CJ y a1 c1 a2' c2' a3 c3 a4 c4 a5 c5).toArray from Blk.row _ HZ.out);have HB4:=hid (Aj hb4 HB3.out);have HS4:=hid (HS3.out.later hb4);have HF4:=hid (HF3.out.later hb4);have HR4:=hid (lift HR3.out hb4);have HE4:=hid (lift HE3.out hb4);clear hX hE0 hgk hb4 HB3 HS3 HF3 HR3 HE3;go_upto_region 8 with (first | (refine wpList_load_mid rfl 50 _ rfl be (oe+EL.length*20) rfl _ _ hX' Tryz.underlying50 rfl HINF.out ?_) | (refine wpList_store_row rfl 50 _ _ rfl w3.heap.size (CJ y a1 c1 a2' c2' a3 c3 a4 c4 a5 c5).toArray rfl rfl 50 #[.int .i64 0,.int .i64 0,.int .i64 0,.int .i64 0,.int .u64 0,.int .u64 0,.int .u64 0,.int .i64 0,.int .i64 0,.slice none 0 0,.slice none 0 0,.slice none 0 0,.int .u64 0,.int .u64 0,.int .u64 0,.int .u64 0,.slice none 0 0,.int .u64 0,.int .u64 0,.slice none 0 0] HZ.out HINF.out rfl ONX.out ?_;generalize hW:(World.setRow (w3.alloc (.cells #[.int .i64 0,.int .i64 0,.int .i64 0,.int .i64 0,.int .u64 0,.int .u64 0,.int .u64 0,.int .i64 0,.int .i64 0,.slice none 0 0,.slice none 0 0,.slice none 0 0,.int .u64 0,.int .u64 0,.int .u64 0,.int .u64 0,.slice none 0 0,.int .u64 0,.int .u64 0,.slice none 0 0] 50)) w3.heap.size (CJ y a1 c1 a2' c2' a3 c3 a4 c4 a5 c5).toArray)=w4 at*));generalize w3.heap.size=gy at*;have q0:w4.cell? ⟨gy,0,none⟩=some (.int .i64 y.kind):=HY4.out.cell 0;have q1:w4.cell? ⟨gy,1,none⟩=some (.int .i64 y.at_):=HY4.out.cell 1;have q2:w4.cell? ⟨gy,2,none⟩=some (.int .i64 y.code):=HY4.out.cell 2;obtain⟨f0,f1,f2,f3,lf⟩:=Bd HF4.out;clear HZ HINF ONX hX' i0' i1 dz;by_cases hk:k=0
   ·have HKG:=hid (HW.out.bat hk)
    have HK1:=hid (HW.out.one hk);have hfin:=HW.out.fin hk;subst hk;obtain⟨s0,s1,s2,s3,ls⟩:=Bd HS4.out;go_upto_region 11 with (fail);have HI0:Hid (AbE w4 g 0 (w4.alloc (.cells #[.int .u64 g.epoch,.slice none 0 0] 63))):=hid ⟨none,0,[],Blk.new _ _ _,AY.nil,zA⟩;generalize (w4.alloc (.cells #[.int .u64 g.epoch,.slice none 0 0] 63))=w5 at*;clear s0 s1 s2 s3 ls f0 f1 f2 f3 lf q0 q1 q2;obtain⟨i0,hib,hz0,hz1,hz2⟩:=A5 Abt;have HGLL:=hid (show g.batches.length=EL.length by rw[←HKG.out,FA]);go_wp2_with fail;go_loopw [8] (fun iv wr=>∃i:Nat,i≤EL.length∧iv=.int .i64 (i:Int)∧Hid (AbE w4 g i wr)) (fun iv _=>EL.length-(intOf iv).toNat)
    case atStart=>exact ⟨0,Ar _,rfl,HI0⟩
    case round=>
     obtain⟨i,hi,rfl,HI⟩:=hrel;obtain⟨aL,cL,cells,hs,ho,hb⟩:=HI.out;have HS:=hid hs;have HO:=hid ho;have HB:=hid hb;clear HI HI0;by_cases hlt:i<EL.length
     ·have d1:decide ((i:Int)<(EL.length:Int))=true:=Ad zC
      have d2:decide ((i:Int)+1<(EL.length:Int)+1)=true:=Ad zC;have d3:decide (i<EL.length)=true:=Ad hlt;have d4:decide ((i:Int)<(EL.length:Int)+1)=true:=Ad zC;have p4:(i:Int)<(EL.length:Int)+1:=zC;have p0:(0:Int)≤(i:Int):=zC;have d5:decide (i<EL.length+1)=true:=Ad zC;obtain⟨be2,oe2,hA,hbe,cs0,_,hX,hE0⟩:=I5 (Mx.keep HE4.out (w':=wr) fun q e=>hb.block q e) (i:=i) zCj;cases hA;have hgl4:w4.heap.size<wr.heap.size:=hs.lt;have hbe':be<w4.heap.size:=hbe;clear hbe;have hgk:(EL++[y])[i]'zCj=EL[i]:=List.getElem_append_left hlt;rw[hgk] at hE0;obtain⟨a1,c1,a2',c2',a3,c3,a4,c4,a5,c5,rfl,hin⟩:=RU hE0;have hib2:i<g.batches.length:=by rw[HGLL.out];exact hlt
      have hbx:EL[i].batch=g.batches[i]'hib2:=by simp[←HKG.out]
      have u0:wr.cell? ⟨be,oe+i*20,none⟩=some (.int .i64 EL[i].kind):=hX 0 _ rfl;have u17:wr.cell? ⟨be,oe+i*20+17,none⟩=some (.int .u64 EL[i].batch.epoch):=hX 17 _ rfl;have u18:wr.cell? ⟨be,oe+i*20+18,none⟩=some (.int .u64 EL[i].batch.base):=hX 18 _ rfl;have u19:wr.cell? ⟨be,oe+i*20+19,none⟩=some (.slice a5 EL[i].batch.entries.length c5):=hX 19 _ rfl;rw[HK1.out i hlt] at u0;have h17:=hin.epoch;have h18:=hin.base;have h19:=hin.ents;clear hX hE0 hin hgk;generalize EL[i].batch=x at*;have hen:Hid (Br.r (·<w4.heap.size) wr [.slice a5 x.entries.length c5] x.entries):=hid h19;have H17:=hid h17;have H18:=hid h18;have HBX:=hid hbx;have hlk:(g.batches.take i).length=i:=ZB;have HO1:=hid (show wr.ownsRow (w4.heap.size+1) 48 3 (.slice aL i cL) i cells.flatten by have:=ho.1;rw[hlk] at this;exact this);have hcl:=(AL ho.slice).2.1;rw[hlk] at hcl;have hlo:∀q,(Value.slice aL i cL).ownBlock=some q→w4.heap.size+1≤q∧q<wr.heap.size:=fun q e=>BP HO1.out q e;have HLO:=hid hlo;have HEN:Hid (Br.r (·<w4.heap.size) w4 [.slice a5 x.entries.length c5] x.entries):=hid (Br.keep hen.out fun q e=>(hb.block q e).symm);obtain⟨s0,s1,s2,s3,ls⟩:=Bd hs;have hbe4:be<wr.heap.size:=zC;clear h17 h18 h19 hbx hlk hs ho hb hen hlo;go_upto_region 16 with (fail);refine BQ (fun w'=>w'.cell? ⟨w4.heap.size,1,none⟩=some (.slice aL i cL)∧w'.cell? ⟨be,oe+i*20+17,none⟩=some (.int .u64 x.epoch)∧w'.cell? ⟨be,oe+i*20+18,none⟩=some (.int .u64 x.base)∧w'.cell? ⟨be,oe+i*20+19,none⟩=some (.slice a5 x.entries.length c5)) _ zJ rfl zJ ⟨s1,u17,u18,u19⟩ (fun hHeld=> ?_);simp only[BD,FG];refine Aq (i:=0) (oi:=_) (v:=?_) rfl zF zF zF (fun _ _ _ h=>h) (Or.inl ⟨zR,?_⟩) zK ?_;rotate_left
      ·(intro w hSw;(try dsimp only at hSw);go_simp<;>with_reducible rfl)
      (try simp only[Act.put,Aa,Ab,Ac])
      (try simp only[Ak,Ah,Af,Act.put,Aa,Ab,Ac])
      refine Aq (i:=1) (oi:=_) (v:=?_) rfl zF zF zF (fun _ _ _ h=>h) (Or.inl ⟨zR,?_⟩) zK ?_;rotate_left
      ·(intro w hSw;(try dsimp only at hSw);go_simp<;>with_reducible rfl)
      (try simp only[Act.put,Aa,Ab,Ac])
      (try simp only[Ak,Ah,Af,Act.put,Aa,Ab,Ac])
      refine Aq (i:=2) (oi:=_) (v:=?_) rfl zF zF zF (fun _ _ _ h=>h) (Or.inl ⟨zR,?_⟩) zK ?_;rotate_left
      ·(intro w hSw;(try dsimp only at hSw);go_simp<;>with_reducible rfl)
      (try simp only[Act.put,Aa,Ab,Ac])
      (try simp only[Ak,Ah,Af,Act.put,Aa,Ab,Ac])
      refine Aq (i:=3) (oi:=_) (v:=?_) rfl zF zF zF (fun _ _ _ h=>h) (Or.inl ⟨zR,?_⟩) zK ?_;rotate_left
      ·(intro w hSw;(try dsimp only at hSw);go_simp<;>with_reducible rfl)
      (try simp only[Act.put,Aa,Ab,Ac])
      (try simp only[Ak,Ah,Af,Act.put,Aa,Ab,Ac])
      refine Aq (i:=4) (oi:=_) (v:=?_) rfl zF zF zF (fun _ _ _ h=>h) (Or.inl ⟨zR,?_⟩) zK ?_;rotate_left
      ·(intro w hSw;(try dsimp only at hSw);go_simp<;>with_reducible rfl)
      (try simp only[Act.put,Aa,Ab,Ac])
      (try simp only[Ak,Ah,Af,Act.put,Aa,Ab,Ac])
      refine Aq (i:=5) (oi:=_) (v:=?_) rfl zF zF zF (fun _ _ _ h=>h) (Or.inl ⟨zR,?_⟩) zK ?_;rotate_left
      ·(intro w hSw;(try dsimp only at hSw);go_simp<;>with_reducible rfl)
      (try simp only[Act.put,Aa,Ab,Ac])
      (try simp only[Ak,Ah,Af,Act.put,Aa,Ab,Ac])
      refine Aq (i:=6) (oi:=_) (v:=?_) rfl zF zF zF (fun _ _ _ h=>h) (Or.inl ⟨zR,?_⟩) zK ?_;rotate_left
      ·(intro w hSw;(try dsimp only at hSw);go_simp<;>with_reducible rfl)
      (try simp only[Act.put,Aa,Ab,Ac])
      (try simp only[Ak,Ah,Af,Act.put,Aa,Ab,Ac])
      refine Bk (rs:=[7]) zF zM ?_;refine Ba (o:=_) rfl (fun K hK=> ?_) Aa7;go_simp
      refine hK.out _ _ ?_ (fun hHeld=> ?_)
      ·((try dsimp only);refine⟨?_,?_,?_,?_⟩<;>(first | with_reducible assumption | (go_keep;done)))
      clear hK K
      (try simp only[Act.put,Aa,Ab,Ac])
      refine Bk (rs:=[8]) zF zM ?_;refine Ba (o:=_) rfl (fun K hK=> ?_) Aa7
      (refine CL zR _ _ _ zR (w4.heap.size+1) 48 i0 (.agg #[.int .u64 0,.int .u64 0,.slice none 0 0]) 3 40 Tryz.underlying61 hib hz0 hz1 hz2 rfl zL (.slice aL i cL) i cells.flatten zR (Bz HO1.out zA) (some ⟨wr.heap.size,0,none⟩) 1 1 [.int .u64 x.epoch,.int .u64 x.base,.slice a5 x.entries.length c5] zR (BU wr.drew 48 _ zR zM rfl) Abs zO zC zI ?_;intro a8 c8 w8 hown8 hgrow8 hat8;have G:=fun b' (hb:b'<wr.heap.size) (hne:(Value.slice aL i cL).ownBlock≠some b')=>(hgrow8.block b' zI (fun e=>hne e.symm)).trans (AN wr.drew _ b' (by exact hb));have neb:(Value.slice aL i cL).ownBlock≠some be:=fun e=>by {have:=(HLO.out _ e).1;omega};have HN8:=hid (AbE.next (x:=x) (HS.out.drew) (AY.keep (w':=wr.drew) HO.out (fun _ _=>rfl) (fun _ _=>rfl)) HB.out.drew hib2 HBX.out H17.out H18.out HEN.out hown8 hgrow8 hat8);have m1:w8.cell? ⟨w4.heap.size,1,none⟩=some (.slice aL i cL):=HN8.out.2.cell 1;have m2:w8.frozen? ⟨w4.heap.size,1,none⟩=false:=HN8.out.2.free 1;have lm8:w4.heap.size<w8.heap.size:=HN8.out.2.lt;have n17:=(Bq (a:=⟨be,oe+i*20+17,none⟩) (G be hbe4 neb)).trans u17;have n18:=(Bq (a:=⟨be,oe+i*20+18,none⟩) (G be hbe4 neb)).trans u18;have n19:=(Bq (a:=⟨be,oe+i*20+19,none⟩) (G be hbe4 neb)).trans u19;clear G hown8 hgrow8 hat8)
      refine hK.out _ _ ?_ (fun hHeld=> ?_)
      ·((try dsimp only);refine⟨?_,?_,?_,?_⟩<;>(first | with_reducible assumption | (go_keep;done)))
      clear hK K
      (try simp only[Act.put,Aa,Ab,Ac])
      refine Aq (i:=9) (oi:=_) (v:=?_) rfl zF zF zF (fun _ _ _ h=>h) (Or.inl ⟨zR,?_⟩) zK ?_;rotate_left
      ·(intro w hSw;(try dsimp only at hSw);go_simp<;>with_reducible rfl)
      (try simp only[Act.put,Aa,Ab,Ac])
      (try simp only[Ak,Ah,Af,Act.put,Aa,Ab,Ac])
      refine Aq (i:=10) (oi:=_) (v:=?_) rfl zF zF zF (fun _ _ _ h=>h) (Or.inl ⟨zR,?_⟩) zK ?_;rotate_left
      ·(intro w hSw;(try dsimp only at hSw);go_simp<;>with_reducible rfl)
      (try simp only[Act.put,Aa,Ab,Ac])
      (try simp only[Ak,Ah,Af,Act.put,Aa,Ab,Ac])
      refine FP zJ ?_ _;show wpList _ _ _ _ _ _
      go_wp2_with fail;go_roundw
      case rel=>exact ⟨i+1,zC,zT,hid HN8.out.1⟩
      case measure=>(simp[intOf];try omega)
     ·obtain rfl:i=EL.length:=by omega
      have d1:decide ((EL.length:Int)+1<(EL.length:Int)+1)=false:=Ae zC;have hfull:g.batches.take EL.length=g.batches:=Bp (by rw[HGLL.out];exact As _);rw[hfull] at ho;have HRN:=hid (show DN.r (·<wr.heap.size) wr [.slice aL EL.length cL] g.batches by
       have:=DN.mono ho.slice (S':=(·<wr.heap.size)) fun q e=>by
        rcases e with e | e
        ·have:q<w4.heap.size:=e
         have:=hb.size;omega
        ·exact (BP ho.1 q e).2
       exact this)
      have HRO:=hid (lift HR4.out hb);have HSA:=hid (by
       have:=AbI g.epoch g.epoch g.batches g.batches aL a2 _ cL _ c2 wr HRN.out HRO.out;rw[Ad rfl] at this;exact this:Calls Tryz.prog 37 #[.agg #[.int .u64 g.epoch,.slice aL EL.length cL],.agg #[.int .u64 g.epoch,.slice a2 g.batches.length c2]] wr fun r w'=>r=.returned (.bool true)∧Below wr.heap.size wr w')
      have HS9:=hid (HS4.out.later hb);have HY9:=hid (HY4.out.later hb);have HB9:=hid (Aj hb HB4.out);obtain⟨s0,s1,s2,s3,ls⟩:=Bd hs;obtain⟨t0,t1,t2,t3,lt⟩:=Bd HS9.out;clear hs ho hb HS HO HB hfull HRN HRO hlt hi;go_wp2_with fail;refine HSA.out.mono ?_;rintro r w8 ⟨rfl,hb8⟩;have HB8:=hid (Aj hb8 HB9.out);have q0:w8.cell? ⟨gy,0,none⟩=some (.int .i64 y.kind):=(HY9.out.later hb8).cell 0;have q1:w8.cell? ⟨gy,1,none⟩=some (.int .i64 y.at_):=(HY9.out.later hb8).cell 1;rw[hfin.1] at q0;rw[hfin.2] at q1;clear hb8 HB9 HY9 HSA s0 s1 s2 s3 ls t0 t1 t2 t3 lt hfin;go_wp2_with fail;refine (HLV.out _).mono ?_;rintro r w9 ⟨rfl,hb9⟩;have HBE:=hid (Aj hb9 HB8.out);go_wp2_with fail;go_ret;exact⟨rfl,HBE.out⟩
   ·obtain⟨h1,h2,h3⟩:=HW.out.bad hk
    have e1:(k==(0:Int))=false:=by simp[hk]
    have e3:decide ((3:Int)≤y.kind)=true:=Ad h1;rw[h2] at q2;rw[h3] at q1;clear h1 h2 h3 hk;go_wp2_with fail;refine (HLV.out _).mono ?_;rintro r w9 ⟨rfl,hb9⟩;have HBE:=hid (Aj hb9 HB4.out);go_wp2_with fail;go_ret;exact⟨rfl,HBE.out⟩
  ·clear HDS HAL
   go_wp2_with fail;refine (HLV.out _).mono ?_;rintro r w9 ⟨rfl,hb9⟩;have HBE:=hid (Aj hb9 HB0.out);go_wp2_with fail;go_ret;exact⟨rfl,HBE.out⟩
 ·have d0:decide ((800:Int)<(B.length:Int))=true:=Ad zC
  have d0n:decide (800<B.length)=true:=Ad zC;clear h800 hl;go_enter Tryz.func13,Tryz.ntmps13;go_wp2_with fail;refine (HLV.out _).mono ?_;rintro r w1 ⟨rfl,hb1⟩;go_wp2_with fail;go_ret;exact⟨rfl,hb1⟩
theorem feedWhole_walk{H:Type}(enc:TypeId × Value→H)(W:World)(base:Nat)(v0:Value)(d0:DataW H)(p0:List MemPlace)
 (k0:DataW.Trod enc Tryz.prog W 0 (fun _=>true) true 22 v0 d0 p0) (o0:Value.okWide Tryz.prog W .any base 22 v0):
  Calls Tryz.prog 13 #[v0] W fun e w'=>e=.returned (.bool true)∧Below W.heap.size W w':=by
 obtain⟨fuel,hf⟩:=k0;obtain⟨a,len,cap,rfl⟩:=Go.WideShapes.okWide_slice AJ o0;obtain⟨b,hb⟩:=Yc enc W fuel _ _ hf;exact AbC b a len cap W hb
end Go.Proofs.YtfddhafbhceoaaaGreat
