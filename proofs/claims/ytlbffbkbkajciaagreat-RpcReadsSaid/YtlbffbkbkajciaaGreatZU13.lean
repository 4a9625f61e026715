/- Mini: Needed by rpcReads_walk, part 13: texts put together by shake.py; no condition. -/
import Derived.Test.YtlbffbkbkajciaaGreatZU9
import Derived.Test.YtlbffbkbkajciaaGreatZU8
import Derived.Test.YtlbffbkbkajciaaGreatZU5
import Derived.Test.YtlbffbkbkajciaaGreatZU3
import Derived.Test.YtlbffbkbkajciaaGreatZU2
import Derived.Test.YtlbffbkbkajciaaGreatZU1
import Derived.Test.YtlbffbkbkajciaaGreatZU12
import Derived.Deep.Cut
import Derived.Deep.CutRange
import Derived.Test.YtlbffbkbkajciaaGreatZU11
import Derived.Test.YtlbffbkbkajciaaGreatZU7
import Derived.Test.YtlbffbkbkajciaaGreatZU6
import Derived.Test.YtlbffbkbkajciaaGreatZU4
set_option linter.unusedVariables false
set_option linter.unusedSimpArgs false
set_option maxRecDepth 100000
set_option maxHeartbeats 6400000
namespace Go.Bs
theorem zBk{p:Prop}(h:p:=by simp [results, Tryz.results40, go_sem, n0, n1, n2, n3, n4, n5, n6, n7, n8, n9, n10, n11, n12, n13]):p:=h
theorem zBg{p:Prop}(h:p:=by simp [results, Tryz.results115, go_sem, n0, n1, n2, n3, n4, n5, n6, n7, n8, n9, n10, n11, n12, n13]):p:=h
theorem zAe{p:Prop}(h:p:=by have := hq.2; omega):p:=h
theorem ZO{p:Prop}(h:p:=by first | rfl | trivial):p:=h
theorem zF{p:Prop}(h:p:=by repeat (first | with_reducible assumption | with_reducible refine Blk.drew ?_ | with_reducible refine Blk.far ?_ (by dsimp only; omega) _)):p:=h
abbrev Vz(h:Array Value:=by exact #[.int .i64 0,.int .u64 0,.int .u64 0,.int .u64 0,.int .i64 0,.int .i64 0,.slice none 0 0,.slice none 0 0,.slice none 0 0,.int .u64 0,.int .u64 0,.int .u64 0,.int .u64 0,.slice none 0 0]):=h
abbrev VM(h:Array Value:=by exact #[.int .i64 k,.int .u64 0,.int .u64 0,.int .u64 0,.int .i64 0,.int .i64 0,.slice none 0 0,.slice none 0 0,.slice none 0 0,.int .u64 0,.int .u64 0,.int .u64 0,.int .u64 0,.slice none 0 0]):=h
abbrev VT(h:Array Value:=by exact #[.int .i64 (s.p:Int),.pointer (some ⟨w.heap.size,0,none⟩),.pointer (some ⟨M,0,none⟩)]):=h
abbrev VU(h:Array Value:=by exact #[.pointer (some ⟨w.heap.size,0,none⟩),.pointer (some ⟨M,0,none⟩),.pointer (some ⟨w.heap.size+1,0,none⟩)]):=h
theorem BK:type_of% @Proofs.Tryz.ntmps181:=@Proofs.Tryz.ntmps181
theorem Ca:type_of% @Proofs.Tryz.func181:=@Proofs.Tryz.func181
end Go.Bs
namespace Go.Proofs.YtlbffbkbkajciaaGreat
open Go.RowKit Go.Bs Go.Maps
variable{caps:Array Value}{h q:Bool}{bound k:Int}{B out:List UInt8}{m:Msg}{M fn g lo p:Nat}{K S:Nat → Prop}{a:Option Addr}{s:Rs}{t:TypeId}{v1 v2 v3 v4:Value}{W W' w w':World}{X:World → Bool → Prop}
theorem EV{α:Type}{f:Rs→Rs × α}{z:α}(hn:h=false∨s.k≠0)(hb:s.k≠0→f s=(s,z)):Rs.part h s f z=(s,z):=by
 cases h
 ·rfl
 ·exact hb (hn.resolve_left zS)
theorem QG{k:Int}{s:Rs}{blk:Rs→Rs × List UInt8 × Bool}(hU:BJ w g B a fn caps blk K X)(h:CA w g B a K X q M lo k m v1 v2 v3 v4 s W)(P:World→Prop)
 (HC:AM k 1=true→s.k=0→∀W':World,Below W.heap.size W W'→Calls Tryz.prog 182 VT W' fun r W''=>r=.returned (.tuple #[])∧P W'')
 (HN:(AM k 1=false∨s.k≠0)→∀W':World,Below W.heap.size W W'→P W'):
  Calls Tryz.prog 181 #[.int .i64 1,.func (Fn.func 182) #[] #[.pointer (some ⟨w.heap.size,0,none⟩),.pointer (some ⟨M,0,none⟩)],.pointer (some ⟨w.heap.size+1,0,none⟩),.pointer (some ⟨w.heap.size,0,none⟩)] W fun r W'=>r=.returned (.tuple #[])∧P W':=by
 have HH:=hid (CZ k 1 zW W);have HRD:=hid h.rd;have y0:W.cell? ⟨w.heap.size+1,0,none⟩=some (.int .i64 k):=h.pk.cell 0;have p0:W.cell? ⟨w.heap.size,0,none⟩=some (.pointer (some ⟨g,0,none⟩)):=h.pa.cell 0;have l0:=h.pa.lt;have HCC:=hid HC;have HNN:=hid HN;clear h HC HN hU;generalize AM k 1=H at*;cases H
 ·go_enter Ca,BK
  go_wp2_with fail;refine HH.out.mono ?_;rintro r w1 ⟨rfl,hb1⟩;have HP:=hid (HNN.out (.inl ZO) w1 hb1);clear hb1;go_wp2_with fail;first | go_end0 | refine Af (Av rfl _ _ _) rfl ?_
  exact⟨rfl,HP.out⟩
 ·by_cases hk:s.k=0
  ·have HG:=hid (fun (V:World) (hV:AY V g B a s)=>(by have:=AG V hV;rw[Ae hk] at this;exact this:Calls Tryz.prog 44 #[.pointer (some ⟨g,0,none⟩)] V fun r w'=>r=.returned (.bool true)∧Below V.heap.size V w'))
   have HC2:=hid (HCC.out ZO hk);clear hk;go_enter Ca,BK;go_wp2_with fail;refine HH.out.mono ?_;rintro r w1 ⟨rfl,hb1⟩;have p1:=(hb1.cell (p:=⟨w.heap.size,0,none⟩) l0).trans p0;have HRD1:=hid (HRD.out.later hb1);have HB1:=hid hb1;have l1:=Am l0 hb1.size;clear hb1;go_wp2_with fail;refine (HG.out _ HRD1.out).mono ?_;rintro r w2 ⟨rfl,hb2⟩;have p2:=(hb2.cell (p:=⟨w.heap.size,0,none⟩) l1).trans p1;have HRD2:=hid (HRD1.out.later hb2);have HB2:=hid (HB1.out.trans (hb2.mono HB1.out.size));clear hb2;go_wp2_with fail;refine (Cc _ HRD2.out).mono ?_;rintro r w2' ⟨rfl,rfl⟩;go_wp2_with fail;refine (HC2.out _ HB2.out).mono ?_;rintro r w3 ⟨rfl,hp⟩;have HP:=hid hp;clear hp;go_wp2_with fail;first | go_end0 | refine Af (Av rfl _ _ _) rfl ?_
   exact⟨rfl,HP.out⟩
  ·have HG:=hid (fun (V:World) (hV:AY V g B a s)=>(by have:=AG V hV;rw[Ad hk] at this;exact this:Calls Tryz.prog 44 #[.pointer (some ⟨g,0,none⟩)] V fun r w'=>r=.returned (.bool false)∧Below V.heap.size V w'))
   have HN2:=hid (HNN.out (.inr hk));clear hk;go_enter Ca,BK;go_wp2_with fail;refine HH.out.mono ?_;rintro r w1 ⟨rfl,hb1⟩;have p1:=(hb1.cell (p:=⟨w.heap.size,0,none⟩) l0).trans p0;have HRD1:=hid (HRD.out.later hb1);have HB1:=hid hb1;clear hb1;go_wp2_with fail;refine (HG.out _ HRD1.out).mono ?_;rintro r w2 ⟨rfl,hb2⟩;have HP:=hid (HN2.out _ (HB1.out.trans (hb2.mono HB1.out.size)));clear hb2;go_wp2_with fail;first | go_end0 | refine Af (Av rfl _ _ _) rfl ?_
   exact⟨rfl,HP.out⟩
theorem TU{w:World}{g:Nat}{B:List UInt8}{a:Option Addr}{K:Nat→Prop}{X:World→Bool→Prop}{q:Bool}{M lo:Nat}{k:Int}{m:Msg}{v1 v2 v3 v4:Value}{s:Rs}{blk:Rs→Rs × List UInt8 × Bool}(hU:BJ w g B a fn caps blk K X)(hB:B.length≤1000000000)(h:CA w g B a K X q M lo k m v1 v2 v3 v4 s W)(hz:m.pos=(0:Int)):
  Calls Tryz.prog 181 #[.int .i64 1,.func (Fn.func 182) #[] #[.pointer (some ⟨w.heap.size,0,none⟩),.pointer (some ⟨M,0,none⟩)],.pointer (some ⟨w.heap.size+1,0,none⟩),.pointer (some ⟨w.heap.size,0,none⟩)] W fun r W'=>r=.returned (.tuple #[])∧CA w g B a K X q M lo k {m with pos:=(Rs.part (AM k 1) s (Rs.Gy B) 0).2} v1 v2 v3 v4 (Rs.part (AM k 1) s (Rs.Gy B) 0).1 W':=by
 refine QG hU h (fun W'=>CA w g B a K X q M lo k {m with pos:=(Rs.part (AM k 1) s (Rs.Gy B) 0).2} v1 v2 v3 v4 (Rs.part (AM k 1) s (Rs.Gy B) 0).1 W') (fun hh hk W' hb=> ?_) (fun hn W' hb=> ?_)
 ·have:=So hU hB (h.later hU hb) s.p
  rw[hh];exact this
 ·rw[EV hn fun e=>Rs.PT e]
  have e:{m with pos:=(0:Int)}=m:=by
   cases m;dsimp only at hz;subst hz;rfl
  dsimp only;rw[e];exact h.later hU hb
theorem QF{k:Int}{s:Rs}{blk:Rs→Rs × List UInt8 × Bool}(hU:BJ w g B a fn caps blk K X)(h:CA w g B a K X q M lo k m v1 v2 v3 v4 s W)(P:World→Prop)
 (HC:AM k 2=true→s.k=0→∀W':World,Below W.heap.size W W'→Calls Tryz.prog 184 VT W' fun r W''=>r=.returned (.tuple #[])∧P W'')
 (HN:(AM k 2=false∨s.k≠0)→∀W':World,Below W.heap.size W W'→P W'):
  Calls Tryz.prog 181 #[.int .i64 2,.func (Fn.func 184) #[] #[.pointer (some ⟨w.heap.size,0,none⟩),.pointer (some ⟨M,0,none⟩)],.pointer (some ⟨w.heap.size+1,0,none⟩),.pointer (some ⟨w.heap.size,0,none⟩)] W fun r W'=>r=.returned (.tuple #[])∧P W':=by
 have HH:=hid (CZ k 2 zW W);have HRD:=hid h.rd;have y0:W.cell? ⟨w.heap.size+1,0,none⟩=some (.int .i64 k):=h.pk.cell 0;have p0:W.cell? ⟨w.heap.size,0,none⟩=some (.pointer (some ⟨g,0,none⟩)):=h.pa.cell 0;have l0:=h.pa.lt;have HCC:=hid HC;have HNN:=hid HN;clear h HC HN hU;generalize AM k 2=H at*;cases H
 ·go_enter Ca,BK
  go_wp2_with fail;refine HH.out.mono ?_;rintro r w1 ⟨rfl,hb1⟩;have HP:=hid (HNN.out (.inl ZO) w1 hb1);clear hb1;go_wp2_with fail;first | go_end0 | refine Af (Av rfl _ _ _) rfl ?_
  exact⟨rfl,HP.out⟩
 ·by_cases hk:s.k=0
  ·have HG:=hid (fun (V:World) (hV:AY V g B a s)=>(by have:=AG V hV;rw[Ae hk] at this;exact this:Calls Tryz.prog 44 #[.pointer (some ⟨g,0,none⟩)] V fun r w'=>r=.returned (.bool true)∧Below V.heap.size V w'))
   have HC2:=hid (HCC.out ZO hk);clear hk;go_enter Ca,BK;go_wp2_with fail;refine HH.out.mono ?_;rintro r w1 ⟨rfl,hb1⟩;have p1:=(hb1.cell (p:=⟨w.heap.size,0,none⟩) l0).trans p0;have HRD1:=hid (HRD.out.later hb1);have HB1:=hid hb1;have l1:=Am l0 hb1.size;clear hb1;go_wp2_with fail;refine (HG.out _ HRD1.out).mono ?_;rintro r w2 ⟨rfl,hb2⟩;have p2:=(hb2.cell (p:=⟨w.heap.size,0,none⟩) l1).trans p1;have HRD2:=hid (HRD1.out.later hb2);have HB2:=hid (HB1.out.trans (hb2.mono HB1.out.size));clear hb2;go_wp2_with fail;refine (Cc _ HRD2.out).mono ?_;rintro r w2' ⟨rfl,rfl⟩;go_wp2_with fail;refine (HC2.out _ HB2.out).mono ?_;rintro r w3 ⟨rfl,hp⟩;have HP:=hid hp;clear hp;go_wp2_with fail;first | go_end0 | refine Af (Av rfl _ _ _) rfl ?_
   exact⟨rfl,HP.out⟩
  ·have HG:=hid (fun (V:World) (hV:AY V g B a s)=>(by have:=AG V hV;rw[Ad hk] at this;exact this:Calls Tryz.prog 44 #[.pointer (some ⟨g,0,none⟩)] V fun r w'=>r=.returned (.bool false)∧Below V.heap.size V w'))
   have HN2:=hid (HNN.out (.inr hk));clear hk;go_enter Ca,BK;go_wp2_with fail;refine HH.out.mono ?_;rintro r w1 ⟨rfl,hb1⟩;have p1:=(hb1.cell (p:=⟨w.heap.size,0,none⟩) l0).trans p0;have HRD1:=hid (HRD.out.later hb1);have HB1:=hid hb1;clear hb1;go_wp2_with fail;refine (HG.out _ HRD1.out).mono ?_;rintro r w2 ⟨rfl,hb2⟩;have HP:=hid (HN2.out _ (HB1.out.trans (hb2.mono HB1.out.size)));clear hb2;go_wp2_with fail;first | go_end0 | refine Af (Av rfl _ _ _) rfl ?_
   exact⟨rfl,HP.out⟩
theorem TT{w:World}{g:Nat}{B:List UInt8}{a:Option Addr}{K:Nat→Prop}{X:World→Bool→Prop}{q:Bool}{M lo:Nat}{k:Int}{m:Msg}{v1 v2 v3 v4:Value}{s:Rs}{blk:Rs→Rs × List UInt8 × Bool}(hU:BJ w g B a fn caps blk K X)(hB:B.length≤1000000000)(h:CA w g B a K X q M lo k m v1 v2 v3 v4 s W)(hz:m.count=(0:Int)):
  Calls Tryz.prog 181 #[.int .i64 2,.func (Fn.func 184) #[] #[.pointer (some ⟨w.heap.size,0,none⟩),.pointer (some ⟨M,0,none⟩)],.pointer (some ⟨w.heap.size+1,0,none⟩),.pointer (some ⟨w.heap.size,0,none⟩)] W fun r W'=>r=.returned (.tuple #[])∧CA w g B a K X q M lo k {m with count:=(Rs.part (AM k 2) s (Rs.cnt B) 0).2} v1 v2 v3 v4 (Rs.part (AM k 2) s (Rs.cnt B) 0).1 W':=by
 refine QF hU h (fun W'=>CA w g B a K X q M lo k {m with count:=(Rs.part (AM k 2) s (Rs.cnt B) 0).2} v1 v2 v3 v4 (Rs.part (AM k 2) s (Rs.cnt B) 0).1 W') (fun hh hk W' hb=> ?_) (fun hn W' hb=> ?_)
 ·have:=OW hU hB (h.later hU hb) s.p
  rw[hh];exact this.mono fun r V ⟨h1,h2⟩=>⟨h1,h2 rfl⟩
 ·rw[EV hn fun e=>Rs.Qw e]
  have e:{m with count:=(0:Int)}=m:=by
   cases m;dsimp only at hz;subst hz;rfl
  dsimp only;rw[e];exact h.later hU hb
theorem QE{k:Int}{s:Rs}{blk:Rs→Rs × List UInt8 × Bool}(hU:BJ w g B a fn caps blk K X)(h:CA w g B a K X q M lo k m v1 v2 v3 v4 s W)(P:World→Prop)
 (HC:AM k 4=true→s.k=0→∀W':World,Below W.heap.size W W'→Calls Tryz.prog 187 #[.int .i64 (s.p:Int),.pointer (some ⟨w.heap.size,0,none⟩),.pointer (some ⟨M,0,none⟩),.pointer (some ⟨w.heap.size+1,0,none⟩)] W' fun r W''=>r=.returned (.tuple #[])∧P W'')
 (HN:(AM k 4=false∨s.k≠0)→∀W':World,Below W.heap.size W W'→P W'):
  Calls Tryz.prog 181 #[.int .i64 4,.func (Fn.func 187) #[] VU,.pointer (some ⟨w.heap.size+1,0,none⟩),.pointer (some ⟨w.heap.size,0,none⟩)] W fun r W'=>r=.returned (.tuple #[])∧P W':=by
 have HH:=hid (CZ k 4 zW W);have HRD:=hid h.rd;have y0:W.cell? ⟨w.heap.size+1,0,none⟩=some (.int .i64 k):=h.pk.cell 0;have p0:W.cell? ⟨w.heap.size,0,none⟩=some (.pointer (some ⟨g,0,none⟩)):=h.pa.cell 0;have l0:=h.pa.lt;have HCC:=hid HC;have HNN:=hid HN;clear h HC HN hU;generalize AM k 4=H at*;cases H
 ·go_enter Ca,BK
  go_wp2_with fail;refine HH.out.mono ?_;rintro r w1 ⟨rfl,hb1⟩;have HP:=hid (HNN.out (.inl ZO) w1 hb1);clear hb1;go_wp2_with fail;first | go_end0 | refine Af (Av rfl _ _ _) rfl ?_
  exact⟨rfl,HP.out⟩
 ·by_cases hk:s.k=0
  ·have HG:=hid (fun (V:World) (hV:AY V g B a s)=>(by have:=AG V hV;rw[Ae hk] at this;exact this:Calls Tryz.prog 44 #[.pointer (some ⟨g,0,none⟩)] V fun r w'=>r=.returned (.bool true)∧Below V.heap.size V w'))
   have HC2:=hid (HCC.out ZO hk);clear hk;go_enter Ca,BK;go_wp2_with fail;refine HH.out.mono ?_;rintro r w1 ⟨rfl,hb1⟩;have p1:=(hb1.cell (p:=⟨w.heap.size,0,none⟩) l0).trans p0;have HRD1:=hid (HRD.out.later hb1);have HB1:=hid hb1;have l1:=Am l0 hb1.size;clear hb1;go_wp2_with fail;refine (HG.out _ HRD1.out).mono ?_;rintro r w2 ⟨rfl,hb2⟩;have p2:=(hb2.cell (p:=⟨w.heap.size,0,none⟩) l1).trans p1;have HRD2:=hid (HRD1.out.later hb2);have HB2:=hid (HB1.out.trans (hb2.mono HB1.out.size));clear hb2;go_wp2_with fail;refine (Cc _ HRD2.out).mono ?_;rintro r w2' ⟨rfl,rfl⟩;go_wp2_with fail;refine (HC2.out _ HB2.out).mono ?_;rintro r w3 ⟨rfl,hp⟩;have HP:=hid hp;clear hp;go_wp2_with fail;first | go_end0 | refine Af (Av rfl _ _ _) rfl ?_
   exact⟨rfl,HP.out⟩
  ·have HG:=hid (fun (V:World) (hV:AY V g B a s)=>(by have:=AG V hV;rw[Ad hk] at this;exact this:Calls Tryz.prog 44 #[.pointer (some ⟨g,0,none⟩)] V fun r w'=>r=.returned (.bool false)∧Below V.heap.size V w'))
   have HN2:=hid (HNN.out (.inr hk));clear hk;go_enter Ca,BK;go_wp2_with fail;refine HH.out.mono ?_;rintro r w1 ⟨rfl,hb1⟩;have p1:=(hb1.cell (p:=⟨w.heap.size,0,none⟩) l0).trans p0;have HRD1:=hid (HRD.out.later hb1);have HB1:=hid hb1;clear hb1;go_wp2_with fail;refine (HG.out _ HRD1.out).mono ?_;rintro r w2 ⟨rfl,hb2⟩;have HP:=hid (HN2.out _ (HB1.out.trans (hb2.mono HB1.out.size)));clear hb2;go_wp2_with fail;first | go_end0 | refine Af (Av rfl _ _ _) rfl ?_
   exact⟨rfl,HP.out⟩
theorem TS{w:World}{g:Nat}{B:List UInt8}{a:Option Addr}{K:Nat→Prop}{X:World→Bool→Prop}{q:Bool}{M lo:Nat}{k:Int}{m:Msg}{v1 v2 v3 v4:Value}{s:Rs}{blk:Rs→Rs × List UInt8 × Bool}(hU:BJ w g B a fn caps blk K X)(hB:B.length≤1000000000)(h:CA w g B a K X q M lo k m v1 v2 v3 v4 s W)(hz:m.state=(0:Int)):
  Calls Tryz.prog 181 #[.int .i64 4,.func (Fn.func 187) #[] VU,.pointer (some ⟨w.heap.size+1,0,none⟩),.pointer (some ⟨w.heap.size,0,none⟩)] W fun r W'=>r=.returned (.tuple #[])∧CA w g B a K X q M lo k {m with state:=(Rs.part (AM k 4) s (Rs.stt B k) 0).2} v1 v2 v3 v4 (Rs.part (AM k 4) s (Rs.stt B k) 0).1 W':=by
 refine QE hU h (fun W'=>CA w g B a K X q M lo k {m with state:=(Rs.part (AM k 4) s (Rs.stt B k) 0).2} v1 v2 v3 v4 (Rs.part (AM k 4) s (Rs.stt B k) 0).1 W') (fun hh hk W' hb=> ?_) (fun hn W' hb=> ?_)
 ·have:=OS hU hB (h.later hU hb) s.p
  rw[hh];exact this.mono fun r V ⟨h1,h2⟩=>⟨h1,h2 rfl⟩
 ·rw[EV hn fun e=>Rs.Pd e]
  have e:{m with state:=(0:Int)}=m:=by
   cases m;dsimp only at hz;subst hz;rfl
  dsimp only;rw[e];exact h.later hU hb
theorem QD{k:Int}{s:Rs}{blk:Rs→Rs × List UInt8 × Bool}(hU:BJ w g B a fn caps blk K X)(h:CA w g B a K X q M lo k m v1 v2 v3 v4 s W)(P:World→Prop)
 (HC:AM k 8=true→s.k=0→∀W':World,Below W.heap.size W W'→Calls Tryz.prog 189 VT W' fun r W''=>r=.returned (.tuple #[])∧P W'')
 (HN:(AM k 8=false∨s.k≠0)→∀W':World,Below W.heap.size W W'→P W'):
  Calls Tryz.prog 181 #[.int .i64 8,.func (Fn.func 189) #[] #[.pointer (some ⟨w.heap.size,0,none⟩),.pointer (some ⟨M,0,none⟩)],.pointer (some ⟨w.heap.size+1,0,none⟩),.pointer (some ⟨w.heap.size,0,none⟩)] W fun r W'=>r=.returned (.tuple #[])∧P W':=by
 have HH:=hid (CZ k 8 zW W);have HRD:=hid h.rd;have y0:W.cell? ⟨w.heap.size+1,0,none⟩=some (.int .i64 k):=h.pk.cell 0;have p0:W.cell? ⟨w.heap.size,0,none⟩=some (.pointer (some ⟨g,0,none⟩)):=h.pa.cell 0;have l0:=h.pa.lt;have HCC:=hid HC;have HNN:=hid HN;clear h HC HN hU;generalize AM k 8=H at*;cases H
 ·go_enter Ca,BK
  go_wp2_with fail;refine HH.out.mono ?_;rintro r w1 ⟨rfl,hb1⟩;have HP:=hid (HNN.out (.inl ZO) w1 hb1);clear hb1;go_wp2_with fail;first | go_end0 | refine Af (Av rfl _ _ _) rfl ?_
  exact⟨rfl,HP.out⟩
 ·by_cases hk:s.k=0
  ·have HG:=hid (fun (V:World) (hV:AY V g B a s)=>(by have:=AG V hV;rw[Ae hk] at this;exact this:Calls Tryz.prog 44 #[.pointer (some ⟨g,0,none⟩)] V fun r w'=>r=.returned (.bool true)∧Below V.heap.size V w'))
   have HC2:=hid (HCC.out ZO hk);clear hk;go_enter Ca,BK;go_wp2_with fail;refine HH.out.mono ?_;rintro r w1 ⟨rfl,hb1⟩;have p1:=(hb1.cell (p:=⟨w.heap.size,0,none⟩) l0).trans p0;have HRD1:=hid (HRD.out.later hb1);have HB1:=hid hb1;have l1:=Am l0 hb1.size;clear hb1;go_wp2_with fail;refine (HG.out _ HRD1.out).mono ?_;rintro r w2 ⟨rfl,hb2⟩;have p2:=(hb2.cell (p:=⟨w.heap.size,0,none⟩) l1).trans p1;have HRD2:=hid (HRD1.out.later hb2);have HB2:=hid (HB1.out.trans (hb2.mono HB1.out.size));clear hb2;go_wp2_with fail;refine (Cc _ HRD2.out).mono ?_;rintro r w2' ⟨rfl,rfl⟩;go_wp2_with fail;refine (HC2.out _ HB2.out).mono ?_;rintro r w3 ⟨rfl,hp⟩;have HP:=hid hp;clear hp;go_wp2_with fail;first | go_end0 | refine Af (Av rfl _ _ _) rfl ?_
   exact⟨rfl,HP.out⟩
  ·have HG:=hid (fun (V:World) (hV:AY V g B a s)=>(by have:=AG V hV;rw[Ad hk] at this;exact this:Calls Tryz.prog 44 #[.pointer (some ⟨g,0,none⟩)] V fun r w'=>r=.returned (.bool false)∧Below V.heap.size V w'))
   have HN2:=hid (HNN.out (.inr hk));clear hk;go_enter Ca,BK;go_wp2_with fail;refine HH.out.mono ?_;rintro r w1 ⟨rfl,hb1⟩;have p1:=(hb1.cell (p:=⟨w.heap.size,0,none⟩) l0).trans p0;have HRD1:=hid (HRD.out.later hb1);have HB1:=hid hb1;clear hb1;go_wp2_with fail;refine (HG.out _ HRD1.out).mono ?_;rintro r w2 ⟨rfl,hb2⟩;have HP:=hid (HN2.out _ (HB1.out.trans (hb2.mono HB1.out.size)));clear hb2;go_wp2_with fail;first | go_end0 | refine Af (Av rfl _ _ _) rfl ?_
   exact⟨rfl,HP.out⟩
theorem TR{blk:Rs→Rs × List UInt8 × Bool}(hU:BJ w g B a fn caps blk K X)(hB:B.length≤1000000000)(h:CA w g B a K X q M lo k m v1 v2 v3 v4 s W)(hz:m.streams=([]:List Int)):
  Calls Tryz.prog 181 #[.int .i64 8,.func (Fn.func 189) #[] #[.pointer (some ⟨w.heap.size,0,none⟩),.pointer (some ⟨M,0,none⟩)],.pointer (some ⟨w.heap.size+1,0,none⟩),.pointer (some ⟨w.heap.size,0,none⟩)] W fun r W'=>r=.returned (.tuple #[])∧∃v1',CA w g B a K X q M lo k {m with streams:=(Rs.part (AM k 8) s (Rs.IC B) []).2} v1' v2 v3 v4 (Rs.part (AM k 8) s (Rs.IC B) []).1 W':=by
 refine QD hU h (fun W'=>∃v1',CA w g B a K X q M lo k {m with streams:=(Rs.part (AM k 8) s (Rs.IC B) []).2} v1' v2 v3 v4 (Rs.part (AM k 8) s (Rs.IC B) []).1 W') (fun hh hk W' hb=> ?_) (fun hn W' hb=> ?_)
 ·have:=L9 hU hB (h.later hU hb) s.p
  rw[hh];exact this
 ·rw[EV hn fun e=>Rs.NN e]
  have e:{m with streams:=([]:List Int)}=m:=by
   cases m;dsimp only at hz;subst hz;rfl
  dsimp only;rw[e];exact⟨_,h.later hU hb⟩
theorem OV{k:Int}{s:Rs}{blk:Rs→Rs × List UInt8 × Bool}(hU:BJ w g B a fn caps blk K X)(h:CA w g B a K X q M lo k m v1 v2 v3 v4 s W)(P:World→Prop)
 (HC:AM k 16=true→s.k=0→∀W':World,Below W.heap.size W W'→Calls Tryz.prog 191 VT W' fun r W''=>r=.returned (.tuple #[])∧P W'')
 (HN:(AM k 16=false∨s.k≠0)→∀W':World,Below W.heap.size W W'→P W'):
  Calls Tryz.prog 181 #[.int .i64 16,.func (Fn.func 191) #[] #[.pointer (some ⟨w.heap.size,0,none⟩),.pointer (some ⟨M,0,none⟩)],.pointer (some ⟨w.heap.size+1,0,none⟩),.pointer (some ⟨w.heap.size,0,none⟩)] W fun r W'=>r=.returned (.tuple #[])∧P W':=by
 have HH:=hid (CZ k 16 zW W);have HRD:=hid h.rd;have y0:W.cell? ⟨w.heap.size+1,0,none⟩=some (.int .i64 k):=h.pk.cell 0;have p0:W.cell? ⟨w.heap.size,0,none⟩=some (.pointer (some ⟨g,0,none⟩)):=h.pa.cell 0;have l0:=h.pa.lt;have HCC:=hid HC;have HNN:=hid HN;clear h HC HN hU;generalize AM k 16=H at*;cases H
 ·go_enter Ca,BK
  go_wp2_with fail;refine HH.out.mono ?_;rintro r w1 ⟨rfl,hb1⟩;have HP:=hid (HNN.out (.inl ZO) w1 hb1);clear hb1;go_wp2_with fail;first | go_end0 | refine Af (Av rfl _ _ _) rfl ?_
  exact⟨rfl,HP.out⟩
 ·by_cases hk:s.k=0
  ·have HG:=hid (fun (V:World) (hV:AY V g B a s)=>(by have:=AG V hV;rw[Ae hk] at this;exact this:Calls Tryz.prog 44 #[.pointer (some ⟨g,0,none⟩)] V fun r w'=>r=.returned (.bool true)∧Below V.heap.size V w'))
   have HC2:=hid (HCC.out ZO hk);clear hk;go_enter Ca,BK;go_wp2_with fail;refine HH.out.mono ?_;rintro r w1 ⟨rfl,hb1⟩;have p1:=(hb1.cell (p:=⟨w.heap.size,0,none⟩) l0).trans p0;have HRD1:=hid (HRD.out.later hb1);have HB1:=hid hb1;have l1:=Am l0 hb1.size;clear hb1;go_wp2_with fail;refine (HG.out _ HRD1.out).mono ?_;rintro r w2 ⟨rfl,hb2⟩;have p2:=(hb2.cell (p:=⟨w.heap.size,0,none⟩) l1).trans p1;have HRD2:=hid (HRD1.out.later hb2);have HB2:=hid (HB1.out.trans (hb2.mono HB1.out.size));clear hb2;go_wp2_with fail;refine (Cc _ HRD2.out).mono ?_;rintro r w2' ⟨rfl,rfl⟩;go_wp2_with fail;refine (HC2.out _ HB2.out).mono ?_;rintro r w3 ⟨rfl,hp⟩;have HP:=hid hp;clear hp;go_wp2_with fail;first | go_end0 | refine Af (Av rfl _ _ _) rfl ?_
   exact⟨rfl,HP.out⟩
  ·have HG:=hid (fun (V:World) (hV:AY V g B a s)=>(by have:=AG V hV;rw[Ad hk] at this;exact this:Calls Tryz.prog 44 #[.pointer (some ⟨g,0,none⟩)] V fun r w'=>r=.returned (.bool false)∧Below V.heap.size V w'))
   have HN2:=hid (HNN.out (.inr hk));clear hk;go_enter Ca,BK;go_wp2_with fail;refine HH.out.mono ?_;rintro r w1 ⟨rfl,hb1⟩;have p1:=(hb1.cell (p:=⟨w.heap.size,0,none⟩) l0).trans p0;have HRD1:=hid (HRD.out.later hb1);have HB1:=hid hb1;clear hb1;go_wp2_with fail;refine (HG.out _ HRD1.out).mono ?_;rintro r w2 ⟨rfl,hb2⟩;have HP:=hid (HN2.out _ (HB1.out.trans (hb2.mono HB1.out.size)));clear hb2;go_wp2_with fail;first | go_end0 | refine Af (Av rfl _ _ _) rfl ?_
   exact⟨rfl,HP.out⟩
theorem Sq{B:List UInt8}{k:Int}{m:Msg}{v1 v3 v4:Value}{s:Rs}{blk:Rs→Rs × List UInt8 × Bool}(hU:BJ w g B a fn caps blk K X)(hB:B.length≤1000000000)(h:CA w g B a K X q M lo k m v1 v2 v3 v4 s W)(hz:m.links=([]:List BS))(hpos:0≤m.pos∧m.pos≤18446744073709551615):
  Calls Tryz.prog 181 #[.int .i64 16,.func (Fn.func 191) #[] #[.pointer (some ⟨w.heap.size,0,none⟩),.pointer (some ⟨M,0,none⟩)],.pointer (some ⟨w.heap.size+1,0,none⟩),.pointer (some ⟨w.heap.size,0,none⟩)] W fun r W'=>r=.returned (.tuple #[])∧∃v2',CA w g B a K X q M lo k {m with links:=(Rs.part (AM k 16) s (fun t=>t.links B m.pos) []).2} v1 v2' v3 v4 (Rs.part (AM k 16) s (fun t=>t.links B m.pos) []).1 W':=by
 refine OV hU h (fun W'=>∃v2',CA w g B a K X q M lo k {m with links:=(Rs.part (AM k 16) s (fun t=>t.links B m.pos) []).2} v1 v2' v3 v4 (Rs.part (AM k 16) s (fun t=>t.links B m.pos) []).1 W') (fun hh hk W' hb=> ?_) (fun hn W' hb=> ?_)
 ·have:=OT hU hB (h.later hU hb) s.p hpos
  rw[hh];exact this
 ·rw[EV hn fun e=>Rs.LY e]
  have e:{m with links:=([]:List BS)}=m:=by
   cases m;dsimp only at hz;subst hz;rfl
  dsimp only;rw[e];exact⟨_,h.later hU hb⟩
theorem OU{k:Int}{s:Rs}{blk:Rs→Rs × List UInt8 × Bool}(hU:BJ w g B a fn caps blk K X)(h:CA w g B a K X q M lo k m v1 v2 v3 v4 s W)(P:World→Prop)
 (HC:AM k 64=true→s.k=0→∀W':World,Below W.heap.size W W'→Calls Tryz.prog 193 VT W' fun r W''=>r=.returned (.tuple #[])∧P W'')
 (HN:(AM k 64=false∨s.k≠0)→∀W':World,Below W.heap.size W W'→P W'):
  Calls Tryz.prog 181 #[.int .i64 64,.func (Fn.func 193) #[] #[.pointer (some ⟨w.heap.size,0,none⟩),.pointer (some ⟨M,0,none⟩)],.pointer (some ⟨w.heap.size+1,0,none⟩),.pointer (some ⟨w.heap.size,0,none⟩)] W fun r W'=>r=.returned (.tuple #[])∧P W':=by
 have HH:=hid (CZ k 64 zW W);have HRD:=hid h.rd;have y0:W.cell? ⟨w.heap.size+1,0,none⟩=some (.int .i64 k):=h.pk.cell 0;have p0:W.cell? ⟨w.heap.size,0,none⟩=some (.pointer (some ⟨g,0,none⟩)):=h.pa.cell 0;have l0:=h.pa.lt;have HCC:=hid HC;have HNN:=hid HN;clear h HC HN hU;generalize AM k 64=H at*;cases H
 ·go_enter Ca,BK
  go_wp2_with fail;refine HH.out.mono ?_;rintro r w1 ⟨rfl,hb1⟩;have HP:=hid (HNN.out (.inl ZO) w1 hb1);clear hb1;go_wp2_with fail;first | go_end0 | refine Af (Av rfl _ _ _) rfl ?_
  exact⟨rfl,HP.out⟩
 ·by_cases hk:s.k=0
  ·have HG:=hid (fun (V:World) (hV:AY V g B a s)=>(by have:=AG V hV;rw[Ae hk] at this;exact this:Calls Tryz.prog 44 #[.pointer (some ⟨g,0,none⟩)] V fun r w'=>r=.returned (.bool true)∧Below V.heap.size V w'))
   have HC2:=hid (HCC.out ZO hk);clear hk;go_enter Ca,BK;go_wp2_with fail;refine HH.out.mono ?_;rintro r w1 ⟨rfl,hb1⟩;have p1:=(hb1.cell (p:=⟨w.heap.size,0,none⟩) l0).trans p0;have HRD1:=hid (HRD.out.later hb1);have HB1:=hid hb1;have l1:=Am l0 hb1.size;clear hb1;go_wp2_with fail;refine (HG.out _ HRD1.out).mono ?_;rintro r w2 ⟨rfl,hb2⟩;have p2:=(hb2.cell (p:=⟨w.heap.size,0,none⟩) l1).trans p1;have HRD2:=hid (HRD1.out.later hb2);have HB2:=hid (HB1.out.trans (hb2.mono HB1.out.size));clear hb2;go_wp2_with fail;refine (Cc _ HRD2.out).mono ?_;rintro r w2' ⟨rfl,rfl⟩;go_wp2_with fail;refine (HC2.out _ HB2.out).mono ?_;rintro r w3 ⟨rfl,hp⟩;have HP:=hid hp;clear hp;go_wp2_with fail;first | go_end0 | refine Af (Av rfl _ _ _) rfl ?_
   exact⟨rfl,HP.out⟩
  ·have HG:=hid (fun (V:World) (hV:AY V g B a s)=>(by have:=AG V hV;rw[Ad hk] at this;exact this:Calls Tryz.prog 44 #[.pointer (some ⟨g,0,none⟩)] V fun r w'=>r=.returned (.bool false)∧Below V.heap.size V w'))
   have HN2:=hid (HNN.out (.inr hk));clear hk;go_enter Ca,BK;go_wp2_with fail;refine HH.out.mono ?_;rintro r w1 ⟨rfl,hb1⟩;have p1:=(hb1.cell (p:=⟨w.heap.size,0,none⟩) l0).trans p0;have HRD1:=hid (HRD.out.later hb1);have HB1:=hid hb1;clear hb1;go_wp2_with fail;refine (HG.out _ HRD1.out).mono ?_;rintro r w2 ⟨rfl,hb2⟩;have HP:=hid (HN2.out _ (HB1.out.trans (hb2.mono HB1.out.size)));clear hb2;go_wp2_with fail;first | go_end0 | refine Af (Av rfl _ _ _) rfl ?_
   exact⟨rfl,HP.out⟩
theorem Sp{w:World}{g:Nat}{B:List UInt8}{a:Option Addr}{K:Nat→Prop}{X:World→Bool→Prop}{q:Bool}{M lo:Nat}{k:Int}{m:Msg}{v1 v2 v3 v4:Value}{s:Rs}{blk:Rs→Rs × List UInt8 × Bool}(hU:BJ w g B a fn caps blk K X)(hB:B.length≤1000000000)(h:CA w g B a K X q M lo k m v1 v2 v3 v4 s W)(hz:m.sea=BE):
  Calls Tryz.prog 181 #[.int .i64 64,.func (Fn.func 193) #[] #[.pointer (some ⟨w.heap.size,0,none⟩),.pointer (some ⟨M,0,none⟩)],.pointer (some ⟨w.heap.size+1,0,none⟩),.pointer (some ⟨w.heap.size,0,none⟩)] W fun r W'=>r=.returned (.tuple #[])∧CA w g B a K X q M lo k {m with sea:=(Rs.part (AM k 64) s (Rs.seal_ B) BE).2} v1 v2 v3 v4 (Rs.part (AM k 64) s (Rs.seal_ B) BE).1 W':=by
 refine OU hU h (fun W'=>CA w g B a K X q M lo k {m with sea:=(Rs.part (AM k 64) s (Rs.seal_ B) BE).2} v1 v2 v3 v4 (Rs.part (AM k 64) s (Rs.seal_ B) BE).1 W') (fun hh hk W' hb=> ?_) (fun hn W' hb=> ?_)
 ·have:=QA hU hB (h.later hU hb) s.p
  rw[hh];exact this
 ·rw[EV hn fun e=>Rs.Kb e]
  have e:{m with sea:=BE}=m:=by
   cases m;dsimp only at hz;subst hz;rfl
  dsimp only;rw[e];exact h.later hU hb
theorem Nz{k:Int}{s:Rs}{blk:Rs→Rs × List UInt8 × Bool}(hU:BJ w g B a fn caps blk K X)(h:CA w g B a K X q M lo k m v1 v2 v3 v4 s W)(P:World→Prop)
 (HC:AM k 128=true→s.k=0→∀W':World,Below W.heap.size W W'→Calls Tryz.prog 195 VT W' fun r W''=>r=.returned (.tuple #[])∧P W'')
 (HN:(AM k 128=false∨s.k≠0)→∀W':World,Below W.heap.size W W'→P W'):
  Calls Tryz.prog 181 #[.int .i64 128,.func (Fn.func 195) #[] #[.pointer (some ⟨w.heap.size,0,none⟩),.pointer (some ⟨M,0,none⟩)],.pointer (some ⟨w.heap.size+1,0,none⟩),.pointer (some ⟨w.heap.size,0,none⟩)] W fun r W'=>r=.returned (.tuple #[])∧P W':=by
 have HH:=hid (CZ k 128 zW W);have HRD:=hid h.rd;have y0:W.cell? ⟨w.heap.size+1,0,none⟩=some (.int .i64 k):=h.pk.cell 0;have p0:W.cell? ⟨w.heap.size,0,none⟩=some (.pointer (some ⟨g,0,none⟩)):=h.pa.cell 0;have l0:=h.pa.lt;have HCC:=hid HC;have HNN:=hid HN;clear h HC HN hU;generalize AM k 128=H at*;cases H
 ·go_enter Ca,BK
  go_wp2_with fail;refine HH.out.mono ?_;rintro r w1 ⟨rfl,hb1⟩;have HP:=hid (HNN.out (.inl ZO) w1 hb1);clear hb1;go_wp2_with fail;first | go_end0 | refine Af (Av rfl _ _ _) rfl ?_
  exact⟨rfl,HP.out⟩
 ·by_cases hk:s.k=0
  ·have HG:=hid (fun (V:World) (hV:AY V g B a s)=>(by have:=AG V hV;rw[Ae hk] at this;exact this:Calls Tryz.prog 44 #[.pointer (some ⟨g,0,none⟩)] V fun r w'=>r=.returned (.bool true)∧Below V.heap.size V w'))
   have HC2:=hid (HCC.out ZO hk);clear hk;go_enter Ca,BK;go_wp2_with fail;refine HH.out.mono ?_;rintro r w1 ⟨rfl,hb1⟩;have p1:=(hb1.cell (p:=⟨w.heap.size,0,none⟩) l0).trans p0;have HRD1:=hid (HRD.out.later hb1);have HB1:=hid hb1;have l1:=Am l0 hb1.size;clear hb1;go_wp2_with fail;refine (HG.out _ HRD1.out).mono ?_;rintro r w2 ⟨rfl,hb2⟩;have p2:=(hb2.cell (p:=⟨w.heap.size,0,none⟩) l1).trans p1;have HRD2:=hid (HRD1.out.later hb2);have HB2:=hid (HB1.out.trans (hb2.mono HB1.out.size));clear hb2;go_wp2_with fail;refine (Cc _ HRD2.out).mono ?_;rintro r w2' ⟨rfl,rfl⟩;go_wp2_with fail;refine (HC2.out _ HB2.out).mono ?_;rintro r w3 ⟨rfl,hp⟩;have HP:=hid hp;clear hp;go_wp2_with fail;first | go_end0 | refine Af (Av rfl _ _ _) rfl ?_
   exact⟨rfl,HP.out⟩
  ·have HG:=hid (fun (V:World) (hV:AY V g B a s)=>(by have:=AG V hV;rw[Ad hk] at this;exact this:Calls Tryz.prog 44 #[.pointer (some ⟨g,0,none⟩)] V fun r w'=>r=.returned (.bool false)∧Below V.heap.size V w'))
   have HN2:=hid (HNN.out (.inr hk));clear hk;go_enter Ca,BK;go_wp2_with fail;refine HH.out.mono ?_;rintro r w1 ⟨rfl,hb1⟩;have p1:=(hb1.cell (p:=⟨w.heap.size,0,none⟩) l0).trans p0;have HRD1:=hid (HRD.out.later hb1);have HB1:=hid hb1;clear hb1;go_wp2_with fail;refine (HG.out _ HRD1.out).mono ?_;rintro r w2 ⟨rfl,hb2⟩;have HP:=hid (HN2.out _ (HB1.out.trans (hb2.mono HB1.out.size)));clear hb2;go_wp2_with fail;first | go_end0 | refine Af (Av rfl _ _ _) rfl ?_
   exact⟨rfl,HP.out⟩
theorem QC{blk:Rs→Rs × List UInt8 × Bool}(hU:BJ w g B a fn caps blk K X)(hB:B.length≤1000000000)(h:CA w g B a K X q M lo k m v1 v2 v3 v4 s W)(hz:m.proj=Bx):
  Calls Tryz.prog 181 #[.int .i64 128,.func (Fn.func 195) #[] #[.pointer (some ⟨w.heap.size,0,none⟩),.pointer (some ⟨M,0,none⟩)],.pointer (some ⟨w.heap.size+1,0,none⟩),.pointer (some ⟨w.heap.size,0,none⟩)] W fun r W'=>r=.returned (.tuple #[])∧∃v4',CA w g B a K X q M lo k {m with proj:=(Rs.part (AM k 128) s (Rs.Du B) Bx).2} v1 v2 v3 v4' (Rs.part (AM k 128) s (Rs.Du B) Bx).1 W':=by
 refine Nz hU h (fun W'=>∃v4',CA w g B a K X q M lo k {m with proj:=(Rs.part (AM k 128) s (Rs.Du B) Bx).2} v1 v2 v3 v4' (Rs.part (AM k 128) s (Rs.Du B) Bx).1 W') (fun hh hk W' hb=> ?_) (fun hn W' hb=> ?_)
 ·have:=QB hU hB (h.later hU hb) s.p
  rw[hh];exact this
 ·rw[EV hn fun e=>Rs.Kk e]
  have e:{m with proj:=Bx}=m:=by
   cases m;dsimp only at hz;subst hz;rfl
  dsimp only;rw[e];exact⟨_,h.later hU hb⟩
theorem Rs.UG:0≤(s.Gy B).2∧(s.Gy B).2≤18446744073709551615:=by
 have:=Rs.Cp (B:=B) (s:=s);unfold Rs.Gy Rs.po;split
 ·split
  ·dsimp only;omega
  ·simp
 ·simp
theorem Ti:0≤(Rs.part h s (Rs.Gy B) 0).2∧(Rs.part h s (Rs.Gy B) 0).2≤18446744073709551615:=by
 cases h
 ·exact⟨Int.le_refl _,(by decide:(0:Int)≤18446744073709551615)⟩
 ·exact Rs.UG
theorem EJ{R:Nat}{cs:Array Value}(h:Blk W R 32 zeroCells):
  Blk ((((((((((((((W.setCell ⟨R,0,none⟩ (.int .i64 m.kind)).setCell ⟨R,1,none⟩ (.int .u64 m.epoch)).setCell ⟨R,2,none⟩ (.int .u64 m.seq)).setCell ⟨R,3,none⟩ (.int .u64 m.pos)).setCell ⟨R,4,none⟩ (.int .i64 m.count)).setCell ⟨R,5,none⟩ (.int .i64 m.state)).setCell ⟨R,6,none⟩ v1).setCell ⟨R,7,none⟩ v2).setCell ⟨R,8,none⟩ v3).setCell ⟨R,9,none⟩ (.int .u64 m.sea.epoch)).setCell ⟨R,10,none⟩ (.int .u64 m.sea.node)).setCell ⟨R,11,none⟩ (.int .u64 m.sea.tail)).setCell ⟨R,12,none⟩ (.int .u64 m.proj.epoch)).setCell ⟨R,13,none⟩ v4) R 32 (Cf m v1 v2 v3 v4):=by
 have:=((((((((((((((h.set 0 (.int .i64 m.kind)).set 1 (.int .u64 m.epoch)).set 2 (.int .u64 m.seq)).set 3 (.int .u64 m.pos)).set 4 (.int .i64 m.count)).set 5 (.int .i64 m.state)).set 6 v1).set 7 v2).set 8 v3).set 9 (.int .u64 m.sea.epoch)).set 10 (.int .u64 m.sea.node)).set 11 (.int .u64 m.sea.tail)).set 12 (.int .u64 m.proj.epoch)).set 13 v4);simp only[Aa,Ab,Ac] at this;exact this
theorem G5{R:Nat}{u0 u1 u2 u3 u4 u5 u6 u7 u8 u9 u10 u11 u12 u13:Value}:Tch (·=R) W ((((((((((((((W.setCell ⟨R,0,none⟩ u0).setCell ⟨R,1,none⟩ u1).setCell ⟨R,2,none⟩ u2).setCell ⟨R,3,none⟩ u3).setCell ⟨R,4,none⟩ u4).setCell ⟨R,5,none⟩ u5).setCell ⟨R,6,none⟩ u6).setCell ⟨R,7,none⟩ u7).setCell ⟨R,8,none⟩ u8).setCell ⟨R,9,none⟩ u9).setCell ⟨R,10,none⟩ u10).setCell ⟨R,11,none⟩ u11).setCell ⟨R,12,none⟩ u12).setCell ⟨R,13,none⟩ u13):=by
 refine Tch.setCell (F:=(·=R)) (p:=⟨R,13,none⟩) ?_ (fun _=>rfl) u13;refine Tch.setCell (F:=(·=R)) (p:=⟨R,12,none⟩) ?_ (fun _=>rfl) u12;refine Tch.setCell (F:=(·=R)) (p:=⟨R,11,none⟩) ?_ (fun _=>rfl) u11;refine Tch.setCell (F:=(·=R)) (p:=⟨R,10,none⟩) ?_ (fun _=>rfl) u10;refine Tch.setCell (F:=(·=R)) (p:=⟨R,9,none⟩) ?_ (fun _=>rfl) u9;refine Tch.setCell (F:=(·=R)) (p:=⟨R,8,none⟩) ?_ (fun _=>rfl) u8;refine Tch.setCell (F:=(·=R)) (p:=⟨R,7,none⟩) ?_ (fun _=>rfl) u7;refine Tch.setCell (F:=(·=R)) (p:=⟨R,6,none⟩) ?_ (fun _=>rfl) u6;refine Tch.setCell (F:=(·=R)) (p:=⟨R,5,none⟩) ?_ (fun _=>rfl) u5;refine Tch.setCell (F:=(·=R)) (p:=⟨R,4,none⟩) ?_ (fun _=>rfl) u4;refine Tch.setCell (F:=(·=R)) (p:=⟨R,3,none⟩) ?_ (fun _=>rfl) u3;refine Tch.setCell (F:=(·=R)) (p:=⟨R,2,none⟩) ?_ (fun _=>rfl) u2;refine Tch.setCell (F:=(·=R)) (p:=⟨R,1,none⟩) ?_ (fun _=>rfl) u1;refine Tch.setCell (F:=(·=R)) (p:=⟨R,0,none⟩) ?_ (fun _=>rfl) u0;exact Tch.refl _ _
theorem Be{cs:Array Value}(h:Blk w g t cs):w.frozen? ⟨g,0,none⟩=false∧w.frozen? ⟨g,1,none⟩=false∧w.frozen? ⟨g,2,none⟩=false∧w.frozen? ⟨g,3,none⟩=false∧w.frozen? ⟨g,4,none⟩=false∧w.frozen? ⟨g,5,none⟩=false∧w.frozen? ⟨g,6,none⟩=false∧w.frozen? ⟨g,7,none⟩=false∧w.frozen? ⟨g,8,none⟩=false∧w.frozen? ⟨g,9,none⟩=false∧w.frozen? ⟨g,10,none⟩=false∧w.frozen? ⟨g,11,none⟩=false∧w.frozen? ⟨g,12,none⟩=false∧w.frozen? ⟨g,13,none⟩=false:=
 ⟨h.free 0,h.free 1,h.free 2,h.free 3,h.free 4,h.free 5,h.free 6,h.free 7,h.free 8,h.free 9,h.free 10,h.free 11,h.free 12,h.free 13⟩
theorem Et:Ah.r S w [.slice none 0 0] []:=AZ (xs:=[]) rfl (Aj _) (Ao _) (.inl rfl)
theorem OX{blk:Rs→Rs × List UInt8 × Bool}(hU:BJ w g B a fn caps blk K X)
 (h:CA w g B a K X q (w.heap.size+1+1+1) (w.heap.size+1+1+1+1) k m v1 v2 v3 v4 s W) (ht:Tch (·=w.heap.size+1+1) W W'):
  (AV.r (CO w W') W' [v1] m.streams∧B6.r (CO w W') W' [v2] m.links∧Ah.r (CO w W') W' [v3] m.data∧A3.r (CO w W') W' [v4] m.proj.stripes)∧AY W' g B a s∧Tch K w W'∧X W' q:=by
 have hgl:=hU.lt g hU.own;have hw:=h.tch.size;have hlm:=h.lm;have hk:∀b,(w.heap.size+1+1+1+1)≤b∧b<W.heap.size→W'.heap[b]? =W.heap[b]? :=fun b hb=>ht.block b hb.2 zD;have hm:∀b,(w.heap.size+1+1+1+1)≤b∧b<W.heap.size→w.heap.size≤b∧b<W'.heap.size:=fun b hb=>⟨zD,Am hb.2 ht.size⟩;have hT:Tch K w W':=h.tch.trans ht fun b hb e=>by omega
 exact⟨⟨AV.mono (AV.keep h.st hk) hm,B6.mono (B6.keep h.ln hk) hm,Ah.mono (Ah.keep h.da hk) hm,A3.mono (A3.keep h.sp hk) hm⟩,⟨h.rd.blk.tch ht zD,Ah.mono (Ah.keep hU.dat fun b hb=>hT.block b hb.1 hb.2) fun b hb=>⟨by have:=hT.size;omega,fun e=>hb.2 (e ▸ hU.own)⟩,h.rd.ok⟩,hT,hU.st W W' q h.x hw (ht.mono fun b _ e=> .inr zD)⟩
theorem Iu(w:World)(h:AY w g B a s)(hB:B.length≤1000000000)(k:Int)(fn:Nat)(caps:Array Value)(blk:Rs→Rs × List UInt8 × Bool)(K:Nat→Prop)(X:World→Bool→Prop)(hU:BJ w g B a fn caps blk K X)(hX:X w true):
  Calls Tryz.prog 115 #[.pointer (some ⟨g,0,none⟩),.int .i64 k,.func (Fn.func fn) #[] caps] w fun r w'=>∃v1 v2 v3 v4 q,r=.returned (.agg (Cf (s.body B blk k).2.1 v1 v2 v3 v4))∧(AV.r (CO w w') w' [v1] (s.body B blk k).2.1.streams∧B6.r (CO w w') w' [v2] (s.body B blk k).2.1.links∧Ah.r (CO w w') w' [v3] (s.body B blk k).2.1.data∧A3.r (CO w w') w' [v4] (s.body B blk k).2.1.proj.stripes)∧
   AY w' g B a (s.body B blk k).1∧Tch K w w'∧X w' q∧((s.body B blk k).1.k=0→q=(s.body B blk k).2.2):=by
 have hgl:=hU.lt g hU.own;have HU:=hid hU;have HKR:=hid (fun (W:World)=>GV k W);by_cases hkr:1≤k∧k≤14
 ·have dk:decide (1≤k∧k≤14)=true:=Ae hkr
  rw[dk] at HKR;unfold Rs.body Rs.ahead;rw[An hkr];dsimp only;have hpu:=Ti (B:=B) (s:=s) (h:=AM k 1);generalize hP1:Rs.part (AM k 1) s (Rs.Gy B) 0=P1 at*;obtain⟨s1,x1⟩:=P1;dsimp only at*;generalize hP2:Rs.part (AM k 2) s1 (Rs.cnt B) 0=P2 at*;obtain⟨s2,x2⟩:=P2;dsimp only at*;generalize hP3:Rs.part (AM k 4) s2 (Rs.stt B k) 0=P3 at*;obtain⟨s3,x3⟩:=P3;dsimp only at*;generalize hP4:Rs.part (AM k 8) s3 (Rs.IC B) []=P4 at*;obtain⟨s4,L4⟩:=P4;dsimp only at*;generalize hP5:Rs.part (AM k 16) s4 (fun t=>t.links B x1) []=P5 at*;obtain⟨s5,L5⟩:=P5;dsimp only at*;generalize hP6:Rs.part (Ch k x3) s5 blk ([],true)=P6 at*;obtain⟨s6,D,fl⟩:=P6;dsimp only at*;generalize hP7:Rs.part (AM k 64) s6 (Rs.seal_ B) BE=P7 at*;obtain⟨s7,z7⟩:=P7;dsimp only at*;generalize hP8:Rs.part (AM k 128) s7 (Rs.Du B) Bx=P8 at*;obtain⟨s8,z8⟩:=P8;dsimp only at*;generalize hRS:(if s8.k=0 then (s8,(⟨k,0,0,x1,x2,x3,L4,L5,D,z7,z8⟩:Msg),fl) else (s8,C7,false))=RES;have HRS:=hid hRS;clear hRS;have HP1:=hid hP1;have HP2:=hid hP2;have HP3:=hid hP3;have HP4:=hid hP4;have HP5:=hid hP5;have HP6:=hid hP6;have HP7:=hid hP7;have HP8:=hid hP8;clear hP1 hP2 hP3 hP4 hP5 hP6 hP7 hP8 dk hkr;have hbW:Below w.heap.size w ((((w.alloc (.cells #[.pointer (some ⟨g,0,none⟩)] 52)).alloc (.cells #[.int .i64 k] 3)).alloc (.cells Vz 32)).alloc (.cells VM 32)):=zA;have hszW:(((((w.alloc (.cells #[.pointer (some ⟨g,0,none⟩)] 52)).alloc (.cells #[.int .i64 k] 3)).alloc (.cells Vz 32)).alloc (.cells VM 32))).heap.size=w.heap.size+1+1+1+1:=zP;have hI0:CA w g B a K X true (w.heap.size+1+1+1) (w.heap.size+1+1+1+1) k ⟨k,0,0,0,0,0,[],[],[],BE,Bx⟩ (.slice none 0 0) (.slice none 0 0) (.slice none 0 0) (.slice none 0 0) s ((((w.alloc (.cells #[.pointer (some ⟨g,0,none⟩)] 52)).alloc (.cells #[.int .i64 k] 3)).alloc (.cells Vz 32)).alloc (.cells VM 32)):=
   ⟨h.later hbW,Ah.keep hU.dat fun b hb=>hbW.block b hb.1,zB,zB,zB,zB,⟨zD,zD⟩,zD,AZ (xs:=[]) rfl (Aj _) (Ao _) (.inl rfl),AZ (xs:=[]) rfl (Aj _) (Ao _) (.inl rfl),Et,AZ (xs:=[]) rfl (Aj _) (Ao _) (.inl rfl),Tch.Ce hbW,hU.st w _ true hX (Aj _) (Tch.Ce hbW)⟩
  have HI0:=hid hI0;clear hI0 hbW hszW h hX;go_enter Tryz.func115,Tryz.ntmps115;go_wp2_with fail;refine (HKR.out _).mono ?_;rintro r w0 ⟨rfl,rfl⟩;go_wp2_with fail;generalize ((((w.alloc (.cells #[.pointer (some ⟨g,0,none⟩)] 52)).alloc (.cells #[.int .i64 k] 3)).alloc (.cells Vz 32)).alloc (.cells VM 32))=w1 at*;have hC1:=TU HU.out hB HI0.out rfl;rw[HP1.out] at hC1;dsimp only at hC1;have HC1:=hid hC1;clear hC1;refine HC1.out.mono ?_;rintro r w2 ⟨rfl,hI⟩;have HI1:=hid hI;clear hI HC1;go_wp2_with fail;have hC2:=TT HU.out hB HI1.out rfl;rw[HP2.out] at hC2;dsimp only at hC2;have HC2:=hid hC2;clear hC2;refine HC2.out.mono ?_;rintro r w3 ⟨rfl,hI⟩;have HI2:=hid hI;clear hI HC2;go_wp2_with fail;have hC3:=TS HU.out hB HI2.out rfl;rw[HP3.out] at hC3;dsimp only at hC3;have HC3:=hid hC3;clear hC3;refine HC3.out.mono ?_;rintro r w4 ⟨rfl,hI⟩;have HI3:=hid hI;clear hI HC3;go_wp2_with fail;have hC4:=TR HU.out hB HI3.out rfl;rw[HP4.out] at hC4;dsimp only at hC4;have HC4:=hid hC4;clear hC4;refine HC4.out.mono ?_;rintro r w5 ⟨rfl,v,hI⟩;obtain⟨b1,d1,e,_,_⟩:=At hI.st;cases e;have HI4:=hid hI;clear hI HC4;go_wp2_with fail;have hC5:=Sq HU.out hB HI4.out rfl hpu;rw[HP5.out] at hC5;dsimp only at hC5;have HC5:=hid hC5;clear hC5;refine HC5.out.mono ?_;rintro r w6 ⟨rfl,v,hI⟩;obtain⟨b2,d2,e,_,_⟩:=At hI.ln;cases e;have HI5:=hid hI;clear hI HC5;go_upto_region 11 with (fail);obtain⟨R,hR⟩:∃R,R=(Ch k x3&&decide (s5.k=0)):=⟨_,rfl⟩;have HR:=hid hR;clear hR;go_cut [40] from 35 to 39 (fun v V=>v=.bool R∧Hid (Below w6.heap.size w6 V))
  case first=>
   have hm:=HI5.out.pm;dsimp only[Cf] at hm;obtain⟨y0,y1,y2,y3,y4,y5,y6,y7,y8,y9,y10,y11,y12,y13,lm⟩:=AJ hm;have p0:w6.cell? ⟨w.heap.size,0,none⟩=some (.pointer (some ⟨g,0,none⟩)):=HI5.out.pa.cell 0;have HHD:=hid (GZ ⟨k,0,0,x1,x2,x3,L4,L5,[],BE,Bx⟩ b1 d1 b2 d2 none 0 none 0 w6);dsimp only at HHD;clear hm;cases hBk:Ch k x3
   ·rw[hBk] at HHD HR
    have HR2:Hid (R=false):=hid HR.out;clear hBk;go_wp2_with fail;refine HHD.out.mono ?_;rintro r w7 ⟨rfl,hb7⟩;have HB7:=hid hb7;clear hb7;go_wp2_with fail;go_meet
    case rel=>exact ⟨Cs Value.bool HR2.out.symm,HB7⟩
   ·rw[hBk] at HHD HR
    have HR2:Hid (R=decide (s5.k=0)):=hid (by rw[HR.out,Cw]);have HG:=hid (fun (V:World) (hV:AY V g B a s5)=>(by have:=AG V hV;rw[←HR2.out] at this;exact this:Calls Tryz.prog 44 #[.pointer (some ⟨g,0,none⟩)] V fun r w'=>r=.returned (.bool R)∧Below V.heap.size V w'));clear hBk;go_wp2_with fail;refine HHD.out.mono ?_;rintro r w7 ⟨rfl,hb7⟩;have HI6:=hid (HI5.out.later HU.out hb7);have p7:w7.cell? ⟨w.heap.size,0,none⟩=some (.pointer (some ⟨g,0,none⟩)):=HI6.out.pa.cell 0;have HB7:=hid hb7;clear hb7;go_wp2_with fail;refine (HG.out _ HI6.out.rd).mono ?_;rintro r w8 ⟨rfl,hb8⟩;have HB8:=hid (HB7.out.trans (hb8.mono HB7.out.size));clear hb8;go_wp2_with fail;go_meet
    case rel=>exact ⟨rfl,HB8⟩
  case rest=>
  obtain⟨rfl,hBB⟩:=hcut;obtain⟨w7,hwn⟩:∃W:World,W=wc:=⟨_,rfl⟩;subst hwn;have HI5b:=hid (HI5.out.later HU.out hBB.out);go_upto_if 40 with (fail);go_cut [] from 41 to 43 (fun V=>∃v3 q,Hid (CA w g B a K X q (w.heap.size+1+1+1) (w.heap.size+1+1+1+1) k ⟨k,0,0,x1,x2,x3,L4,L5,D,BE,Bx⟩ (.slice b1 L4.length d1) (.slice b2 L5.length d2) v3 (.slice none 0 0) s6 V)∧Hid (s6.k=0→q=fl))
  case first=>
   have HQ:=HP6.out;have hR:=HR.out;cases R
   ·have HX2:Hid (CA w g B a K X true (w.heap.size+1+1+1) (w.heap.size+1+1+1+1) k ⟨k,0,0,x1,x2,x3,L4,L5,D,BE,Bx⟩ (.slice b1 L4.length d1) (.slice b2 L5.length d2) (.slice none 0 0) (.slice none 0 0) s6 w7∧(s6.k=0→true=fl)):=hid (by
     cases hBk:Ch k x3
     ·rw[hBk] at HQ
      have HQ2:(s5,([]:List UInt8),true)=(s6,D,fl):=HQ;cases HQ2;exact⟨HI5b.out,fun _=>rfl⟩
     ·rw[hBk] at HQ
      have HQ2:blk s5=(s6,D,fl):=HQ;have hk5:s5.k≠0:=fun e=>by
       rw[hBk,Ae e] at hR;exact absurd hR zS
      obtain⟨hq1,hq2⟩:=HU.out.bad s5 hk5;rw[HQ2] at hq1 hq2;dsimp only at hq1 hq2;subst hq1 hq2;exact⟨HI5b.out,fun e=>absurd e hk5⟩)
    clear HQ hR;go_wp2_with fail;go_meet
    case rel=>exact ⟨_,true,hid HX2.out.1,hid HX2.out.2⟩
   ·have hBk:Ch k x3=true:=by
     cases hh:Ch k x3
     ·rw[hh,JB] at hR;exact absurd hR zS
     ·rfl
    have hk5:s5.k=0:=by
     rw[hBk] at hR;exact Cu (by rw[Cw] at hR;exact hR.symm)
    rw[hBk] at HQ;have HQ2:blk s5=(s6,D,fl):=HQ;have HUC:=hid (fun (V:World) (h1:AY V g B a s5) (h2:X V true) (h3:w.heap.size≤V.heap.size) (h4:Tch K w V)=>(by have:=HU.out.call V s5 true h1 h2 h3 h4;rw[HQ2] at this;exact this:Calls Tryz.prog fn caps V fun r W'=>∃v,r=.returned v∧Ah.r (CO V W') W' [v] D∧AY W' g B a s6∧Tch K V W'∧X W' fl));clear HQ2 hk5 HQ hR hBk;go_wp2_with fail;rw[HU.out.ent];refine (HUC.out _ HI5b.out.rd HI5b.out.x HI5b.out.tch.size HI5b.out.tch).mono ?_;rintro r w9 ⟨v9,rfl,hD9,hRD9,hT9,hX9⟩;obtain⟨ad,cd,hfv,hD9',_⟩:=At hD9;simp only[Ai,As] at hfv;subst hfv;have HI8:=hid (HI5b.out.UC HU.out hT9 hRD9 hX9);have hlow:=HI5b.out.low;have HV:=hid (Ah.mono hD9' fun b hb=>(⟨ZS,hb.2⟩:(w.heap.size+1+1+1+1)≤b∧b<w9.heap.size));have f8:=FZ HI8.out.pm 8;obtain⟨y0,y1,y2,y3,y4,y5,y6,y7,y8,y9,y10,y11,y12,y13,l8⟩:=AJ HI8.out.pm;clear hD9 hRD9 hT9 hX9 hD9';go_wp2_with fail;go_meet
    case rel=>exact ⟨_,fl,hid (HI8.out.Fw HU.out 8 _ zJ HI8.out.st HI8.out.ln HV.out HI8.out.sp),hid fun _=>rfl⟩
  case rest=>
   obtain⟨v3,q,HI6,HQF⟩:=hcut;obtain⟨w70,hwn⟩:∃W:World,W=wc:=⟨_,rfl⟩;subst hwn;obtain⟨b3,d3,e,_,_⟩:=At HI6.out.da;cases e;clear HI0 HI1 HI2 HI3 HI4 HI5 HI5b;go_wp2_with fail;have hC7:=Sp HU.out hB HI6.out rfl;rw[HP7.out] at hC7;dsimp only at hC7;have HC7:=hid hC7;clear hC7;refine HC7.out.mono ?_;rintro r w8 ⟨rfl,hI⟩;have HI7:=hid hI;clear hI HC7;go_wp2_with fail;have hC8:=QC HU.out hB HI7.out rfl;rw[HP8.out] at hC8;dsimp only at hC8;have HC8:=hid hC8;clear hC8;refine HC8.out.mono ?_;rintro r w9 ⟨rfl,v,hI⟩;obtain⟨b4,d4,e,_,_⟩:=At hI.sp;cases e;have HI8:=hid hI;have p9:w9.cell? ⟨w.heap.size,0,none⟩=some (.pointer (some ⟨g,0,none⟩)):=hI.pa.cell 0;have HQF8:Hid (s8.k=0→q=fl):=hid fun e=>HQF.out (by
    have h7:=Rs.Tj (by rw[HP8.out];exact e) Rs.UW;exact Rs.Tj (by rw[HP7.out];exact h7) Rs.UR)
   clear hI HC8;by_cases hk:s8.k=0
   ·have HG:=hid (fun (V:World) (hV:AY V g B a s8)=>(by have:=AG V hV;rw[Ae hk] at this;exact this:Calls Tryz.prog 44 #[.pointer (some ⟨g,0,none⟩)] V fun r w'=>r=.returned (.bool true)∧Below V.heap.size V w'))
    have HK:=hid hk;clear hk;go_wp2_with fail;refine (HG.out _ HI8.out.rd).mono ?_;rintro r w10 ⟨rfl,hb10⟩;have HI9:=hid (HI8.out.later HU.out hb10);clear hb10;have hm:=HI9.out.pm;dsimp only[Cf] at hm;obtain⟨y0,y1,y2,y3,y4,y5,y6,y7,y8,y9,y10,y11,y12,y13,lm⟩:=AJ hm;obtain⟨r0,r1,r2,r3,r4,r5,r6,r7,r8,r9,r10,r11,r12,r13,lz⟩:=AJ HI9.out.pr;obtain⟨f0,f1,f2,f3,f4,f5,f6,f7,f8,f9,f10,f11,f12,f13⟩:=Be HI9.out.pr;have hq:=HQF8.out HK.out;clear hm p9;go_wp2_with fail;have hput:=EJ (W:=w10) (m:=⟨k,0,0,x1,x2,x3,L4,L5,D,z7,z8⟩) (v1:=.slice b1 L4.length d1) (v2:=.slice b2 L5.length d2) (v3:=.slice b3 D.length d3) (v4:=.slice b4 z8.stripes.length d4) (cs:=#[]) HI9.out.pr;dsimp only at hput;refine A9 (fun W=>Blk W (w.heap.size+1+1) 32 (Cf ⟨k,0,0,x1,x2,x3,L4,L5,D,z7,z8⟩ (.slice b1 L4.length d1) (.slice b2 L5.length d2) (.slice b3 D.length d3) (.slice b4 z8.stripes.length d4))∧Tch (·=w.heap.size+1+1) w10 W) ⟨hput,?_⟩ ?_
    ·exact G5
    intro W5 ⟨q5,ht5⟩;have hFIN:=OX HU.out HI9.out ht5;dsimp only[Cf] at q5;obtain⟨n0,n1,n2,n3,n4,n5,n6,n7,n8,n9,n10,n11,n12,n13,ln⟩:=AJ q5;have hRES:RES=(s8,(⟨k,0,0,x1,x2,x3,L4,L5,D,z7,z8⟩:Msg),fl):=by rw[←HRS.out];exact An HK.out
    rw[hRES];refine Af (v:=.agg #[.int .i64 k,.int .u64 0,.int .u64 0,.int .u64 x1,.int .i64 x2,.int .i64 x3,.slice b1 L4.length d1,.slice b2 L5.length d2,.slice b3 D.length d3,.int .u64 z7.epoch,.int .u64 z7.node,.int .u64 z7.tail,.int .u64 z8.epoch,.slice b4 z8.stripes.length d4]) zBg rfl ⟨_,_,_,_,q,rfl,hFIN.1,hFIN.2.1,hFIN.2.2.1,hFIN.2.2.2,fun _=>hq⟩
   ·have HG:=hid (fun (V:World) (hV:AY V g B a s8)=>(by have:=AG V hV;rw[Ad hk] at this;exact this:Calls Tryz.prog 44 #[.pointer (some ⟨g,0,none⟩)] V fun r w'=>r=.returned (.bool false)∧Below V.heap.size V w'))
    have HK:=hid hk;clear hk;go_wp2_with fail;refine (HG.out _ HI8.out.rd).mono ?_;rintro r w10 ⟨rfl,hb10⟩;have HI9:=hid (HI8.out.later HU.out hb10);clear hb10 p9;obtain⟨r0,r1,r2,r3,r4,r5,r6,r7,r8,r9,r10,r11,r12,r13,lz⟩:=AJ HI9.out.pr;obtain⟨f0,f1,f2,f3,f4,f5,f6,f7,f8,f9,f10,f11,f12,f13⟩:=Be HI9.out.pr;go_wp2_with fail;have hput:=EJ (W:=w10) (m:=C7) (v1:=(.slice none 0 0)) (v2:=(.slice none 0 0)) (v3:=(.slice none 0 0)) (v4:=(.slice none 0 0)) (cs:=#[]) HI9.out.pr;dsimp only[C7,BE,Bx] at hput;refine A9 (fun W=>Blk W (w.heap.size+1+1) 32 zeroCells∧Tch (·=w.heap.size+1+1) w10 W) ⟨hput,?_⟩ ?_
    ·exact G5
    intro W5 ⟨q5,ht5⟩;have hFIN:=OX HU.out HI9.out ht5;dsimp only[zeroCells] at q5;obtain⟨n0,n1,n2,n3,n4,n5,n6,n7,n8,n9,n10,n11,n12,n13,ln⟩:=AJ q5;have hRES:RES=(s8,C7,false):=by rw[←HRS.out];exact Ak HK.out
    rw[hRES];refine Af (v:=.agg Vz) zBg rfl ⟨(.slice none 0 0),(.slice none 0 0),(.slice none 0 0),(.slice none 0 0),q,rfl,⟨AZ (xs:=[]) rfl (Aj _) (Ao _) (.inl rfl),AZ (xs:=[]) rfl (Aj _) (Ao _) (.inl rfl),Et,AZ (xs:=[]) rfl (Aj _) (Ao _) (.inl rfl)⟩,hFIN.2.1,hFIN.2.2.1,hFIN.2.2.2,fun e=>absurd e HK.out⟩
 ·have dk:decide (1≤k∧k≤14)=false:=Ad hkr
  rw[dk] at HKR;unfold Rs.body;rw[Ak hkr];clear dk hkr;have HE0:=hid (fun (V:World) (hV:AY V g B a s)=>Cc V hV);have HF0:=hid (fun (V:World) (hV:AY V g B a s)=>Br V hV 7 (s.p:Int) zD);have hfk:(s.fail 7 (s.p:Int)).k≠0:=Rs.BV zD;have HFK:=hid hfk;clear hfk;generalize s.fail 7 (s.p:Int)=s1 at*;have hbW:Below w.heap.size w (((w.alloc (.cells #[.pointer (some ⟨g,0,none⟩)] 52)).alloc (.cells #[.int .i64 k] 3)).alloc (.cells Vz 32)):=zA;have HR0:=hid (h.later hbW);have HBW:=hid hbW;have A0:Blk (((w.alloc (.cells #[.pointer (some ⟨g,0,none⟩)] 52)).alloc (.cells #[.int .i64 k] 3)).alloc (.cells Vz 32)) w.heap.size 52 #[.pointer (some ⟨g,0,none⟩)]:=zB;have R0:Blk (((w.alloc (.cells #[.pointer (some ⟨g,0,none⟩)] 52)).alloc (.cells #[.int .i64 k] 3)).alloc (.cells Vz 32)) (w.heap.size+1+1) 32 zeroCells:=zB;have HX:=hid hX;go_enter Tryz.func115,Tryz.ntmps115;go_wp2_with fail;refine (HKR.out _).mono ?_;rintro r w0 ⟨rfl,rfl⟩;go_wp2_with fail;generalize (((w.alloc (.cells #[.pointer (some ⟨g,0,none⟩)] 52)).alloc (.cells #[.int .i64 k] 3)).alloc (.cells Vz 32))=w1 at*;have p0:w1.cell? ⟨w.heap.size,0,none⟩=some (.pointer (some ⟨g,0,none⟩)):=A0.cell 0;have l0:=A0.lt;have HR1:=hid (HR0.out.later (show Below w1.heap.size w1 w1.drew from (Below.refl _ _).drew));refine AW (S:=fun w'=>w'.cell? ⟨w.heap.size,0,none⟩=some (.pointer (some ⟨g,0,none⟩))) zL p0 (fun hHeld=> ?_);refine Al (i:=0) (oi:=_) (v:=?_) rfl zG zG zG (fun _ _ _ h=>h) (Or.inl ⟨zT,?_⟩) zN ?_;rotate_left
  ·(intro w hSw;(try dsimp only at hSw);go_simp<;>with_reducible rfl)
  (try simp only[Act.put,Aa,Ab,Ac])
  refine Al (i:=1) (oi:=_) (v:=?_) rfl zG zG zG (fun _ _ _ h=>h) (Or.inl ⟨zT,?_⟩) zN ?_;rotate_left
  ·(intro w hSw;(try dsimp only at hSw);go_simp<;>with_reducible rfl)
  (try simp only[Act.put,Aa,Ab,Ac])
  refine AF (rs:=[2]) zG zP ?_;refine Ax (o:=_) rfl (fun K hK=> ?_) AllReadyH.nil
  (go_simp;go_at_call 43;refine (HE0.out _ HR1.out).mono ?_;rintro e1 w7 ⟨rfl,rfl⟩;(try dsimp only))
  refine hK.out _ _ ?_ (fun hHeld=> ?_)
  ·((try dsimp only);first | assumption | (go_keep;done))
  clear hK K
  (try simp only[Act.put,Aa,Ab,Ac])
  refine AF (rs:=[3]) zG zP ?_;refine Ax (o:=_) rfl (fun K hK=> ?_) AllReadyH.nil
  (go_simp;go_at_call 180;refine (HF0.out _ HR1.out).mono ?_;rintro e1 w8 ⟨rfl,hst8⟩;have HS8:=hid hst8;have n1:=(hst8.2.cell (p:=⟨w.heap.size,0,none⟩) (by exact l0) zH).trans p0;have R8:=hid (Blk.tch R0.drew hst8.2 zD);clear hst8;(try dsimp only))
  refine hK.out _ _ ?_ (fun hHeld=> ?_)
  ·((try dsimp only);first | assumption | (go_keep;done))
  clear hK K
  (try simp only[Act.put,Aa,Ab,Ac])
  (try simp only[AE,Az,AA,Act.put,Aa,Ab,Ac])
  refine Bp zL ?_ _;obtain⟨z0,z1,z2,z3,z4,z5,z6,z7,z8,z9,z10,z11,z12,z13,lz⟩:=AJ R8.out;obtain⟨f0,f1,f2,f3,f4,f5,f6,f7,f8,f9,f10,f11,f12,f13⟩:=Be R8.out;go_wp2_with fail;have hput:=EJ (W:=w8) (m:=C7) (v1:=(.slice none 0 0)) (v2:=(.slice none 0 0)) (v3:=(.slice none 0 0)) (v4:=(.slice none 0 0)) (cs:=#[]) R8.out;dsimp only[C7,BE,Bx] at hput;refine A9 (fun W=>Blk W (w.heap.size+1+1) 32 zeroCells∧Tch (·=w.heap.size+1+1) w8 W) ⟨hput,?_⟩ ?_
  ·exact G5
  intro W5 ⟨q5,ht5⟩;dsimp only[zeroCells] at q5;obtain⟨n0',n1',n2,n3,n4,n5,n6,n7,n8,n9,n10,n11,n12,n13,ln⟩:=AJ q5;have hTA:Tch (fun b=>b=g∨w.heap.size≤b) w W5:=(((Tch.Ce (F:=fun b=>b=g∨w.heap.size≤b) HBW.out).drew.trans HS8.out.2 fun b _ e=> .inl e).trans ht5 fun b _ e=> .inr zD);have hTK:Tch K w W5:=hTA.mono fun b hb e=>e.elim (fun e=>e ▸ HU.out.own) fun e=>by omega
  have hRD:AY W5 g B a s1:=⟨HS8.out.1.blk.tch ht5 zD,Ah.mono (Ah.keep HU.out.dat fun b hb=>hTK.block b hb.1 hb.2) fun b hb=>⟨by have:=hTK.size;omega,fun e=>hb.2 (e ▸ HU.out.own)⟩,HS8.out.1.ok⟩;refine Af (v:=.agg Vz) (by simp[results,Tryz.results115,go_sem,n0',n1',n2,n3,n4,n5,n6,n7,n8,n9,n10,n11,n12,n13]) rfl ⟨(.slice none 0 0),(.slice none 0 0),(.slice none 0 0),(.slice none 0 0),true,rfl,⟨AZ (xs:=[]) rfl (Aj _) (Ao _) (.inl rfl),AZ (xs:=[]) rfl (Aj _) (Ao _) (.inl rfl),Et,AZ (xs:=[]) rfl (Aj _) (Ao _) (.inl rfl)⟩,hRD,hTK,HU.out.st w W5 true HX.out (Aj _) hTA,fun e=>absurd e HFK.out⟩
structure Rl(w:World)(g:Nat)(B:List UInt8)(a:Option Addr)(fn:Nat)(caps:Array Value)(blk:Rs→Rs × List UInt8 × Bool)(K:Nat→Prop)(X:World→Bool→Prop):Prop where
 lt:∀b,K b→b<w.heap.size
 own:K g
 st:∀W W' q,X W q→w.heap.size≤W.heap.size→Tch (fun b=>b=g∨w.heap.size≤b) W W'→X W' q
 call:∀W t,AY W g B a t→X W false→w.heap.size≤W.heap.size→Tch K w W→Calls Tryz.prog fn caps W fun r W'=>∃v,r=.returned v∧Ah.r (CO W W') W' [v] (blk t).2.1∧AY W' g B a (blk t).1∧Tch K W W'∧X W' (blk t).2.2
 size:∀t,(blk t).2.1.length≤1048576
 dat:Ah.r (fun q=>q<w.heap.size∧¬K q) w [.slice a B.length B.length] B
 ent:∀(xs:Array Value) (W:World),(callFunc fn xs).run Tryz.prog W=.ok (.enter fn xs) W
theorem Rl.rd{blk:Rs→Rs × List UInt8 × Bool}(hU:Rl w g B a fn caps blk K X){s:Rs}(ht:Tch K w W)
 (hb:Blk W g 117 #[.slice a B.length B.length,.int .i64 (s.p:Int),.int .i64 s.k,.int .i64 s.f]) (hs:s.ok B.length):AY W g B a s:=
 ⟨hb,Ah.mono (Ah.keep hU.dat fun q hq=>ht.block q hq.1 hq.2) fun q hq=>⟨Am hq.1 ht.size,fun e=>hq.2 (e ▸ hU.own)⟩,hs⟩
theorem Rs.take_len{n:Int}:(s.take B n).2.length≤n.toNat:=by
 unfold Rs.take;split
 ·simp;omega
 ·simp
theorem Rs.MB{m:Int}:(s.loose B m).2.1.length≤1048576:=by
 have h1:=Rs.FW (B:=B) (s:=s) (m:=min m 1048576);unfold Rs.loose;split
 ·split
  ·split
   ·have:=Rs.take_len (B:=B) (s:=((s.int B (min m 1048576)).1.byte B).1) (n:=((s.int B (min m 1048576)).2:Int))
    dsimp only;omega
   ·simp
  ·split
   ·split
    ·have:=Rs.QT (B:=B) (s:=((s.int B (min m 1048576)).1.byte B).1) (s.int B (min m 1048576)).2
     dsimp only;omega
    ·simp
   ·simp
 ·simp
theorem TY(t:Rs):(CG B t).2.1.length≤1048576:=by
 have:=Rs.MB (B:=B) (s:=t) (m:=1048576);unfold CG Rs.strict;dsimp only;split
 ·split
  ·exact this
  ·simp
 ·simp
theorem Rs.Ss{blk:Rs→Rs × List UInt8 × Bool}(h:(s.body B blk k).1.k≠0):(s.body B blk k).2=(C7,false):=by
 unfold Rs.body at h ⊢;by_cases h1:1≤k∧k≤14
 ·rw[An h1] at h ⊢
  dsimp only at h ⊢;split at h
  ·rename_i h2
   exact absurd h2 h
  ·rename_i h2
   rw[Ak h2]
 ·rw[Ak h1]
theorem Su(t:Rs)(h:t.k≠0):(CG B t).1=t∧(CG B t).2.1=[]:=by
 unfold CG;dsimp only;rw[Rs.Jl h];unfold Rs.strict;dsimp only;rw[Ak h];exact⟨rfl,rfl⟩
theorem Sv(t:Rs)(h:t.k≠0):(DB B t).1=t∧(DB B t).2.1=[]:=by
 unfold DB;rw[Rs.Jl h];exact⟨rfl,rfl⟩
theorem I5{S':Nat→Prop}(hk:∀q,S q→w'.heap[q]? =w.heap[q]?)(hs:∀q,S q→S' q)(h:AV.r S w [v1] m.streams∧B6.r S w [v2] m.links∧Ah.r S w [v3] m.data∧A3.r S w [v4] m.proj.stripes):
  AV.r S' w' [v1] m.streams∧B6.r S' w' [v2] m.links∧Ah.r S' w' [v3] m.data∧A3.r S' w' [v4] m.proj.stripes:=
 ⟨AV.mono (AV.keep h.1 hk) hs,B6.mono (B6.keep h.2.1 hk) hs,Ah.mono (Ah.keep h.2.2.1 hk) hs,A3.mono (A3.keep h.2.2.2 hk) hs⟩
theorem QJ(w:World)(h:AY w g B a s)(hB:B.length≤1000000000)(hp:Blk w p 52 #[.pointer (some ⟨g,0,none⟩)]):
  Calls Tryz.prog 116 #[.pointer (some ⟨p,0,none⟩)] w fun r w'=>∃v,r=.returned v∧Ah.r (CO w w') w' [v] (CG B s).2.1∧AB w g B a (CG B s).1 w':=by
 have HB:=hid (QK w h hB 1048576 zD);have x0:w.cell? ⟨p,0,none⟩=some (.pointer (some ⟨g,0,none⟩)):=hp.cell 0;unfold CG;dsimp only;generalize Rs.strict (s.loose B 1048576)=T at*;obtain⟨s1,D⟩:=T;dsimp only at*;clear h hp;go_enter Tryz.func116,Tryz.ntmps116;go_wp2_with fail;refine HB.out.mono ?_;rintro r w1 ⟨v,rfl,hv,hst⟩;obtain⟨a1,c1,hfv,hv2,_⟩:=At hv;simp only[Ai,As] at hfv;subst hfv;have HV:=hid hv2;have HS:=hid hst;clear hv hv2 hst;go_wp2;go_ret;exact⟨_,rfl,HV.out,HS.out⟩
theorem KA(w:World){g p q:Nat}{B:List UInt8}{a:Option Addr}(h:AY w g B a s)(hB:B.length≤1000000000)(hp:Blk w p 52 #[.pointer (some ⟨g,0,none⟩)]){o:Bool}(hq:Blk w q 4 #[.bool o])(hne:q≠g∧p≠q∧p≠g)
 (hd:Ah.r (fun x=>x<w.heap.size∧¬(x=g∨x=q)) w [.slice a B.length B.length] B):
  Calls Tryz.prog 118 #[.pointer (some ⟨p,0,none⟩),.pointer (some ⟨q,0,none⟩)] w fun r w'=>∃v,r=.returned v∧Ah.r (CO w w') w' [v] (DB B s).2.1∧AY w' g B a (DB B s).1∧Tch (fun x=>x=g∨x=q) w w'∧Blk w' p 52 #[.pointer (some ⟨g,0,none⟩)]∧Blk w' q 4 #[.bool (DB B s).2.2]:=by
 have HB:=hid (Kt w h hB 1048576 zD);have x0:w.cell? ⟨p,0,none⟩=some (.pointer (some ⟨g,0,none⟩)):=hp.cell 0;obtain⟨n1,n2,n3⟩:=hne;have HP:=hid hp;have HQ:=hid hq;have HD:=hid hd;have lq:=hq.lt;have lp:=hp.lt;unfold DB;generalize s.loose B 1048576=T at*;obtain⟨s1,D,z⟩:=T;dsimp only at*;clear h hp hq hd;go_enter Tryz.func118,Tryz.ntmps118;go_wp2_with fail;refine HB.out.mono ?_;rintro r w1 ⟨v,rfl,hv,hst⟩;obtain⟨a1,c1,hfv,hv2,_⟩:=At hv;simp only[Ai,As] at hfv;subst hfv;have Q1:=HQ.out.tch hst.2 zD;have P1:=HP.out.tch hst.2 zD;have q0:w1.cell? ⟨q,0,none⟩=some (.bool o):=Q1.cell 0;have q1:=Q1.free 0;have HV:=hid hv2;have HS:=hid hst;clear hv hv2 hst;go_wp2;go_ret;have hT:Tch (fun x=>x=g∨x=q) w (w1.setCell ⟨q,0,none⟩ (.bool z)):=(HS.out.2.mono fun b _ e=> .inl e).setCell (fun _=> .inr rfl) _;refine⟨_,rfl,?_,⟨Blk.far HS.out.1.blk zH _,Ah.mono (Ah.keep HD.out fun x hx=>hT.block x hx.1 hx.2) fun x hx=>⟨Am hx.1 hT.size,fun e=>hx.2 (.inl e)⟩,HS.out.1.ok⟩,hT,Blk.far P1 zH _,Q1.set 0 _⟩;refine Ah.mono (Ah.keep HV.out fun x hx=>Ap _ _ _ _ (by have:=hx.1;dsimp only;omega)) fun x hx=>⟨hx.1,by simpa using hx.2⟩
theorem QH(w:World)(h:AY w g B a s)(hB:B.length≤1000000000)(k:Int):
  Calls Tryz.prog 39 #[.pointer (some ⟨g,0,none⟩),.int .i64 k] w fun r w'=>∃v1 v2 v3 v4,r=.returned (.agg (Cf (s.body B (CG B) k).2.1 v1 v2 v3 v4))∧(AV.r (CO w w') w' [v1] (s.body B (CG B) k).2.1.streams∧B6.r (CO w w') w' [v2] (s.body B (CG B) k).2.1.links∧Ah.r (CO w w') w' [v3] (s.body B (CG B) k).2.1.data∧A3.r (CO w w') w' [v4] (s.body B (CG B) k).2.1.proj.stripes)∧AB w g B a (s.body B (CG B) k).1 w':=by
 have hlt:=h.blk.lt;have HIN:=hid (CY.refl h);clear h;generalize hZ:s.body B (CG B) k=Z;have HZ:=hid hZ;clear hZ;obtain⟨s1,m,q⟩:=Z;dsimp only at*;go_enter Tryz.func39,Tryz.ntmps39;go_wp2_with fail;have hbw:Below w.heap.size w ((w.alloc (.cells #[.pointer (some ⟨g,0,none⟩)] 52)).alloc (.cells Vz 32)):=zA;have R0:Blk ((w.alloc (.cells #[.pointer (some ⟨g,0,none⟩)] 52)).alloc (.cells Vz 32)) (w.heap.size+1) 32 zeroCells:=zB;have P0:Blk ((w.alloc (.cells #[.pointer (some ⟨g,0,none⟩)] 52)).alloc (.cells Vz 32)) w.heap.size 52 #[.pointer (some ⟨g,0,none⟩)]:=zB;have HIN0:=hid (HIN.out.row hbw);have hsz:(((w.alloc (.cells #[.pointer (some ⟨g,0,none⟩)] 52)).alloc (.cells Vz 32))).heap.size=w.heap.size+2:=zP;have HBW:=hid hbw;clear hbw;generalize ((w.alloc (.cells #[.pointer (some ⟨g,0,none⟩)] 52)).alloc (.cells Vz 32))=W at*;have hU:BJ W g B a 116 #[.pointer (some ⟨w.heap.size,0,none⟩)] (CG B) (·=g) (fun V _=>Blk V w.heap.size 52 #[.pointer (some ⟨g,0,none⟩)]):={
  lt:=fun b e=>by omega
  own:=rfl
  st:=fun V V' q hv hs ht=>Blk.tch hv ht zD
  call:=fun V t q0 hV hX hs ht=>(QJ V hV hB hX).mono fun r V' ⟨v,h1,h2,h3⟩=>⟨v,h1,h2,h3.1,h3.2,Blk.tch hX h3.2 zD⟩
  size:=TY
  dat:=HIN0.out.rd.dat
  bad:=fun t ht=>Su t ht
  ent:=fun xs V=>by go_simp}
 have hC:=Iu W HIN0.out.rd hB k _ _ _ _ _ hU P0;rw[HZ.out] at hC;dsimp only[Cf] at hC;have HC:=hid hC;clear hU P0 hC;refine HC.out.mono ?_;rintro r w1 ⟨v1,v2,v3,v4,q1,rfl,hrows,hrd,ht,_,_⟩;have HRW:=hid hrows;obtain⟨h1,h2,h3,h4⟩:=hrows;obtain⟨a1,c1,hfv,_,_⟩:=At h1;simp only[Ai,As] at hfv;subst hfv;obtain⟨a2,c2,hfv,_,_⟩:=At h2;simp only[Ai,As] at hfv;subst hfv;obtain⟨a3,c3,hfv,_,_⟩:=At h3;simp only[Ai,As] at hfv;subst hfv;obtain⟨a4,c4,hfv,_,_⟩:=At h4;simp only[Ai,As] at hfv;subst hfv;have R1:=R0.tch ht zD;have hs1:=ht.size;have HIN1:=hid (HIN0.out.step ⟨hrd,ht⟩);obtain⟨x0,x1,x2,x3,x4,x5,x6,x7,x8,x9,x10,x11,x12,x13,l1⟩:=AJ R1;obtain⟨f0,f1,f2,f3,f4,f5,f6,f7,f8,f9,f10,f11,f12,f13⟩:=Be R1;clear h1 h2 h3 h4 hrd ht R0;go_wp2_with fail;have hput:=EJ (W:=w1) (m:=m) (v1:=.slice a1 m.streams.length c1) (v2:=.slice a2 m.links.length c2) (v3:=.slice a3 m.data.length c3) (v4:=.slice a4 m.proj.stripes.length c4) (cs:=#[]) R1;refine A9 (fun W=>Blk W (w.heap.size+1) 32 (Cf m (.slice a1 m.streams.length c1) (.slice a2 m.links.length c2) (.slice a3 m.data.length c3) (.slice a4 m.proj.stripes.length c4))∧Tch (·=w.heap.size+1) w1 W) ⟨hput,G5⟩ ?_;intro W5 ⟨q5,ht5⟩;obtain⟨n0,n1,n2,n3,n4,n5,n6,n7,n8,n9,n10,n11,n12,n13,ln⟩:=AJ q5;have hz5:=ht5.size;have hbF:Below w.heap.size w1 W5:=ht5.Ba zD fun b _ e=>by omega
 refine Af (v:=.agg VA) (by simp[results,Tryz.results39,go_sem,n0,n1,n2,n3,n4,n5,n6,n7,n8,n9,n10,n11,n12,n13]) rfl ⟨_,_,_,_,rfl,I5 (fun q hq=>ht5.block q hq.2 zV) (fun q hq=>⟨zV,zAe⟩) HRW.out,(HIN1.out.row hbF).to⟩
theorem QI(w:World)(h:AY w g B a s)(hB:B.length≤1000000000)(k:Int):
  Calls Tryz.prog 40 #[.pointer (some ⟨g,0,none⟩),.int .i64 k] w fun r w'=>∃v1 v2 v3 v4,r=.returned (.tuple #[.agg (Cf (s.body B (DB B) k).2.1 v1 v2 v3 v4),.bool (s.body B (DB B) k).2.2])∧(AV.r (CO w w') w' [v1] (s.body B (DB B) k).2.1.streams∧B6.r (CO w w') w' [v2] (s.body B (DB B) k).2.1.links∧Ah.r (CO w w') w' [v3] (s.body B (DB B) k).2.1.data∧A3.r (CO w w') w' [v4] (s.body B (DB B) k).2.1.proj.stripes)∧AB w g B a (s.body B (DB B) k).1 w':=by
 have hlt:=h.blk.lt;have HIN:=hid (CY.refl h);clear h;have hbad:=Rs.Ss (B:=B) (blk:=DB B) (k:=k) (s:=s);generalize hZ:s.body B (DB B) k=Z at*;have HZ:=hid hZ;clear hZ;obtain⟨s1,m,q⟩:=Z;dsimp only at*;have hq0:s1.k≠0→q=false:=fun hk=>Cs Prod.snd (hbad hk);clear hbad;go_enter Tryz.func40,Tryz.ntmps40;go_wp2_with fail;have hbw:Below w.heap.size w (((w.alloc (.cells #[.pointer (some ⟨g,0,none⟩)] 52)).alloc (.cells Vz 32)).alloc (.cells #[.bool true] 4)):=zA;have R0:Blk (((w.alloc (.cells #[.pointer (some ⟨g,0,none⟩)] 52)).alloc (.cells Vz 32)).alloc (.cells #[.bool true] 4)) (w.heap.size+1) 32 zeroCells:=zB;have P0:Blk (((w.alloc (.cells #[.pointer (some ⟨g,0,none⟩)] 52)).alloc (.cells Vz 32)).alloc (.cells #[.bool true] 4)) w.heap.size 52 #[.pointer (some ⟨g,0,none⟩)]:=zB;have Q0:Blk (((w.alloc (.cells #[.pointer (some ⟨g,0,none⟩)] 52)).alloc (.cells Vz 32)).alloc (.cells #[.bool true] 4)) (w.heap.size+1+1) 4 #[.bool true]:=zB;have HIN0:=hid (HIN.out.row hbw);have hsz:((((w.alloc (.cells #[.pointer (some ⟨g,0,none⟩)] 52)).alloc (.cells Vz 32)).alloc (.cells #[.bool true] 4))).heap.size=w.heap.size+3:=zP;have HBW:=hid hbw;clear hbw;generalize (((w.alloc (.cells #[.pointer (some ⟨g,0,none⟩)] 52)).alloc (.cells Vz 32)).alloc (.cells #[.bool true] 4))=W at*;have hU:BJ W g B a 118 #[.pointer (some ⟨w.heap.size,0,none⟩),.pointer (some ⟨w.heap.size+1+1,0,none⟩)] (DB B) (fun x=>x=g∨x=w.heap.size+1+1) (fun V q=>Blk V w.heap.size 52 #[.pointer (some ⟨g,0,none⟩)]∧Blk V (w.heap.size+1+1) 4 #[.bool q]):=by
  have hdat:Ah.r (fun x=>x<W.heap.size∧¬(x=g∨x=w.heap.size+1+1)) W [.slice a B.length B.length] B:=Ah.mono HIN0.out.dat fun x hx=>⟨zD,fun e=>e.elim (fun e=>hx.2 e) fun e=>zD⟩;exact {
   lt:=fun b e=>by omega
   own:=.inl rfl
   st:=fun V V' q hv hs ht=>⟨Blk.tch hv.1 ht zD,Blk.tch hv.2 ht zD⟩
   call:=fun V t q0 hV hX hs ht=>(KA V hV hB hX.1 hX.2 zD (Ah.mono (Ah.keep hdat fun x hx=>ht.block x hx.1 hx.2) fun x hx=>⟨zD,hx.2⟩)).mono fun r V' ⟨v,h1,h2,h3,h4,h5,h6⟩=>⟨v,h1,h2,h3,h4,h5,h6⟩
   size:=fun t=>Rs.MB
   dat:=hdat
   bad:=fun t ht=>Sv t ht
   ent:=fun xs V=>by go_simp}
 have hC:=Iu W HIN0.out.rd hB k _ _ _ _ _ hU ⟨P0,Q0⟩;rw[HZ.out] at hC;dsimp only[Cf] at hC;have HC:=hid hC;clear hU P0 Q0 hC;refine HC.out.mono ?_;rintro r w1 ⟨v1,v2,v3,v4,q1,rfl,hrows,hrd,ht,⟨P1,Q1⟩,hq1⟩
 (try dsimp only at hrd hq1 hrows)
 have HRW:=hid hrows;obtain⟨h1,h2,h3,h4⟩:=hrows;obtain⟨a1,c1,hfv,_,_⟩:=At h1;simp only[Ai,As] at hfv;subst hfv;obtain⟨a2,c2,hfv,_,_⟩:=At h2;simp only[Ai,As] at hfv;subst hfv;obtain⟨a3,c3,hfv,_,_⟩:=At h3;simp only[Ai,As] at hfv;subst hfv;obtain⟨a4,c4,hfv,_,_⟩:=At h4;simp only[Ai,As] at hfv;subst hfv;have R1:=R0.tch ht zD;have hs1:=ht.size;have HRD:=hid hrd;have hTw:Tch (·=g) w w1:=(Tch.Ce (F:=(·=g)) (HBW.out)).trans ht fun b hb e=>by omega
 have HTW:=hid hTw;have lr:=R1.lt;have lp:=P1.lt;have lq:=Q1.lt;clear h1 h2 h3 h4 hrd ht hTw;have SK:=hid (fun (w':World) (h0:Blk w' w1.heap.size 32 #[.int .i64 m.kind,.int .u64 m.epoch,.int .u64 m.seq,.int .u64 m.pos,.int .i64 m.count,.int .i64 m.state,.slice a1 m.streams.length c1,.slice a2 m.links.length c2,.slice a3 m.data.length c3,.int .u64 m.sea.epoch,.int .u64 m.sea.node,.int .u64 m.sea.tail,.int .u64 m.proj.epoch,.slice a4 m.proj.stripes.length c4]) (h2:Blk w' w.heap.size 52 #[.pointer (some ⟨g,0,none⟩)]) (h3:Blk w' (w.heap.size+1+1) 4 #[.bool q1])=>(⟨h0.cell 0,h0.cell 1,h0.cell 2,h0.cell 3,h0.cell 4,h0.cell 5,h0.cell 6,h0.cell 7,h0.cell 8,h0.cell 9,h0.cell 10,h0.cell 11,h0.cell 12,h0.cell 13,h2.cell 0,h3.cell 0⟩:w'.cell? ⟨w1.heap.size,0,none⟩=some (.int .i64 m.kind)∧w'.cell? ⟨w1.heap.size,1,none⟩=some (.int .u64 m.epoch)∧w'.cell? ⟨w1.heap.size,2,none⟩=some (.int .u64 m.seq)∧w'.cell? ⟨w1.heap.size,3,none⟩=some (.int .u64 m.pos)∧w'.cell? ⟨w1.heap.size,4,none⟩=some (.int .i64 m.count)∧w'.cell? ⟨w1.heap.size,5,none⟩=some (.int .i64 m.state)∧w'.cell? ⟨w1.heap.size,6,none⟩=some (.slice a1 m.streams.length c1)∧w'.cell? ⟨w1.heap.size,7,none⟩=some (.slice a2 m.links.length c2)∧w'.cell? ⟨w1.heap.size,8,none⟩=some (.slice a3 m.data.length c3)∧w'.cell? ⟨w1.heap.size,9,none⟩=some (.int .u64 m.sea.epoch)∧w'.cell? ⟨w1.heap.size,10,none⟩=some (.int .u64 m.sea.node)∧w'.cell? ⟨w1.heap.size,11,none⟩=some (.int .u64 m.sea.tail)∧w'.cell? ⟨w1.heap.size,12,none⟩=some (.int .u64 m.proj.epoch)∧w'.cell? ⟨w1.heap.size,13,none⟩=some (.slice a4 m.proj.stripes.length c4)∧w'.cell? ⟨w.heap.size,0,none⟩=some (.pointer (some ⟨g,0,none⟩))∧w'.cell? ⟨w.heap.size+1+1,0,none⟩=some (.bool q1)));have E2:Blk (w1.alloc (.cells VA 32)) w1.heap.size 32 VA:=Blk.newAt _ _ _ rfl;have P2:Blk (w1.alloc (.cells VA 32)) w.heap.size 52 #[.pointer (some ⟨g,0,none⟩)]:=P1.alloc _;have Q2:Blk (w1.alloc (.cells VA 32)) (w.heap.size+1+1) 4 #[.bool q1]:=Q1.alloc _;have R2:Blk (w1.alloc (.cells VA 32)) (w.heap.size+1) 32 zeroCells:=R1.alloc _;have hg1:g<w1.heap.size:=zD;have HRD2:=hid (HRD.out.later (show Below w1.heap.size w1 (w1.alloc (.cells VA 32)) from zA));have HS2:=hid (SK.out (w1.alloc (.cells VA 32)) E2 P2 Q2);have HB12:=hid (show Below w1.heap.size w1 (w1.alloc (.cells VA 32)) from zA);have hz2:(w1.alloc (.cells VA 32)).heap.size=w1.heap.size+1:=zP;clear P1 Q1 R1 R0;go_wp2_with fail;generalize (w1.alloc (.cells VA 32))=w2 at*;cases q1
 ·have hqf:q=false:=by
   by_cases hk:s1.k=0
   ·exact (hq1 hk).symm
   ·exact hq0 hk
  subst hqf;clear hq1 hq0;refine AW (S:=fun w'=>w'.cell? ⟨w1.heap.size,0,none⟩=some (.int .i64 m.kind)∧w'.cell? ⟨w1.heap.size,1,none⟩=some (.int .u64 m.epoch)∧w'.cell? ⟨w1.heap.size,2,none⟩=some (.int .u64 m.seq)∧w'.cell? ⟨w1.heap.size,3,none⟩=some (.int .u64 m.pos)∧w'.cell? ⟨w1.heap.size,4,none⟩=some (.int .i64 m.count)∧w'.cell? ⟨w1.heap.size,5,none⟩=some (.int .i64 m.state)∧w'.cell? ⟨w1.heap.size,6,none⟩=some (.slice a1 m.streams.length c1)∧w'.cell? ⟨w1.heap.size,7,none⟩=some (.slice a2 m.links.length c2)∧w'.cell? ⟨w1.heap.size,8,none⟩=some (.slice a3 m.data.length c3)∧w'.cell? ⟨w1.heap.size,9,none⟩=some (.int .u64 m.sea.epoch)∧w'.cell? ⟨w1.heap.size,10,none⟩=some (.int .u64 m.sea.node)∧w'.cell? ⟨w1.heap.size,11,none⟩=some (.int .u64 m.sea.tail)∧w'.cell? ⟨w1.heap.size,12,none⟩=some (.int .u64 m.proj.epoch)∧w'.cell? ⟨w1.heap.size,13,none⟩=some (.slice a4 m.proj.stripes.length c4)∧w'.cell? ⟨w.heap.size,0,none⟩=some (.pointer (some ⟨g,0,none⟩))∧w'.cell? ⟨w.heap.size+1+1,0,none⟩=some (.bool false)) zL HS2.out (fun hHeld=> ?_);refine Al (i:=0) (oi:=_) (v:=?_) rfl zG zG zG (fun _ _ _ h=>h) (Or.inl ⟨zT,?_⟩) zN ?_;rotate_left
  ·(intro w hSw;(try dsimp only at hSw);go_simp<;>with_reducible rfl)
  (try simp only[Act.put,Aa,Ab,Ac])
  refine Al (i:=1) (oi:=_) (v:=?_) rfl zG zG zG (fun _ _ _ h=>h) (Or.inl ⟨zT,?_⟩) zN ?_;rotate_left
  ·(intro w hSw;(try dsimp only at hSw);go_simp<;>with_reducible rfl)
  (try simp only[Act.put,Aa,Ab,Ac])
  refine Al (i:=2) (oi:=_) (v:=?_) rfl zG zG zG (fun _ _ _ h=>h) (Or.inl ⟨zT,?_⟩) zN ?_;rotate_left
  ·(intro w hSw;(try dsimp only at hSw);go_simp<;>with_reducible rfl)
  (try simp only[Act.put,Aa,Ab,Ac])
  refine Al (i:=3) (oi:=_) (v:=undef) rfl zG zG zG (fun _ _ _ h=>h) (Or.inr ⟨zL,rfl⟩) zN ?_
  (try simp only[Act.put,Aa,Ab,Ac])
  refine Al (i:=4) (oi:=_) (v:=undef) rfl zG zG zG (fun _ _ _ h=>h) (Or.inr ⟨zL,rfl⟩) zN ?_
  (try simp only[Act.put,Aa,Ab,Ac])
  refine Al (i:=5) (oi:=_) (v:=?_) rfl zG zG zG (fun _ _ _ h=>h) (Or.inl ⟨zL,?_⟩) zN ?_;rotate_left
  ·(intro w hSw;(try dsimp only at hSw);go_simp<;>with_reducible rfl)
  (try simp only[Act.put,Aa,Ab,Ac])
  simp only[AE,Az,AA,Act.put,Aa,Ab,Ac];obtain⟨x0,x1,x2,x3,x4,x5,x6,x7,x8,x9,x10,x11,x12,x13,l1⟩:=AJ R2;obtain⟨f0,f1,f2,f3,f4,f5,f6,f7,f8,f9,f10,f11,f12,f13⟩:=Be R2;refine AF (rs:=[6]) zG zP ?_;refine Ax (o:=_) rfl (fun K hK=> ?_) AllReadyH.nil;go_simp
  refine hK.out _ _ ?_ (fun hHeld=> ?_)
  ·exact SK.out _ zF zF zF
  clear hK K
  (try simp only[Act.put,Aa,Ab,Ac])
  refine Al (i:=7) (oi:=_) (v:=?_) rfl zG zG zG (fun _ _ _ h=>h) (Or.inl ⟨zT,?_⟩) zN ?_;rotate_left
  ·(intro w hSw;(try dsimp only at hSw);go_simp<;>with_reducible rfl)
  (try simp only[Act.put,Aa,Ab,Ac])
  simp only[AE,Az,AA,Act.put,Aa,Ab,Ac];refine Bp zL ?_ _;go_wp2_with fail;have hput:=EJ (W:=w2) (m:=m) (v1:=.slice a1 m.streams.length c1) (v2:=.slice a2 m.links.length c2) (v3:=.slice a3 m.data.length c3) (v4:=.slice a4 m.proj.stripes.length c4) (cs:=#[]) R2;refine A9 (fun W=>Blk W (w.heap.size+1) 32 (Cf m (.slice a1 m.streams.length c1) (.slice a2 m.links.length c2) (.slice a3 m.data.length c3) (.slice a4 m.proj.stripes.length c4))∧Tch (·=w.heap.size+1) w2 W) ⟨hput.drew,G5.drew⟩ ?_;intro W5 ⟨q5,ht5⟩;obtain⟨n0,n1,n2,n3,n4,n5,n6,n7,n8,n9,n10,n11,n12,n13,ln⟩:=AJ q5;have hz5:=ht5.size;have hb1X:Below w1.heap.size w1 w2:=HB12.out;have hzX:=hb1X.size;have hbF:Below w.heap.size w1 W5:=(hb1X.mono zD).trans (ht5.Ba zD fun b _ e=>zD);have hdF:=hbF.size;refine Af (v:=.tuple #[.agg VA,.bool false]) zBk rfl ⟨_,_,_,_,rfl,I5 (fun q hq=>(ht5.block q (Am hq.2 hzX) zV).trans (hb1X.block q hq.2)) (fun q hq=>⟨zV,zAe⟩) HRW.out,⟨HRD.out.blk.below hbF hlt,Ah.mono (Ah.keep HIN0.out.dat fun x hx=>(hbF.block x hx.1).trans ((HTW.out.block x hx.1 hx.2).trans (HBW.out.block x hx.1).symm)) fun x hx=>⟨zD,hx.2⟩,HRD.out.ok⟩,HTW.out.trans (Tch.FU hbF) fun b hb hle=>zD⟩
 ·have hqf:decide (s1.k=0)=q:=by
   by_cases hk:s1.k=0
   ·rw[Ae hk];exact hq1 hk
   ·rw[Ad hk];exact (hq0 hk).symm
  have HG:=hid (fun (V:World) (hV:AY V g B a s1)=>(by have:=AG V hV;rw[hqf] at this;exact this:Calls Tryz.prog 44 #[.pointer (some ⟨g,0,none⟩)] V fun r w'=>r=.returned (.bool q)∧Below V.heap.size V w'));have HRD3:=hid (HRD2.out.later (show Below _ w2 w2.drew from (Below.refl _ _).drew));clear hq1 hq0 hqf;refine AW (S:=fun w'=>w'.cell? ⟨w1.heap.size,0,none⟩=some (.int .i64 m.kind)∧w'.cell? ⟨w1.heap.size,1,none⟩=some (.int .u64 m.epoch)∧w'.cell? ⟨w1.heap.size,2,none⟩=some (.int .u64 m.seq)∧w'.cell? ⟨w1.heap.size,3,none⟩=some (.int .u64 m.pos)∧w'.cell? ⟨w1.heap.size,4,none⟩=some (.int .i64 m.count)∧w'.cell? ⟨w1.heap.size,5,none⟩=some (.int .i64 m.state)∧w'.cell? ⟨w1.heap.size,6,none⟩=some (.slice a1 m.streams.length c1)∧w'.cell? ⟨w1.heap.size,7,none⟩=some (.slice a2 m.links.length c2)∧w'.cell? ⟨w1.heap.size,8,none⟩=some (.slice a3 m.data.length c3)∧w'.cell? ⟨w1.heap.size,9,none⟩=some (.int .u64 m.sea.epoch)∧w'.cell? ⟨w1.heap.size,10,none⟩=some (.int .u64 m.sea.node)∧w'.cell? ⟨w1.heap.size,11,none⟩=some (.int .u64 m.sea.tail)∧w'.cell? ⟨w1.heap.size,12,none⟩=some (.int .u64 m.proj.epoch)∧w'.cell? ⟨w1.heap.size,13,none⟩=some (.slice a4 m.proj.stripes.length c4)∧w'.cell? ⟨w.heap.size,0,none⟩=some (.pointer (some ⟨g,0,none⟩))∧w'.cell? ⟨w.heap.size+1+1,0,none⟩=some (.bool true)) zL HS2.out (fun hHeld=> ?_);refine Al (i:=0) (oi:=_) (v:=?_) rfl zG zG zG (fun _ _ _ h=>h) (Or.inl ⟨zT,?_⟩) zN ?_;rotate_left
  ·(intro w hSw;(try dsimp only at hSw);go_simp<;>with_reducible rfl)
  (try simp only[Act.put,Aa,Ab,Ac])
  refine Al (i:=1) (oi:=_) (v:=?_) rfl zG zG zG (fun _ _ _ h=>h) (Or.inl ⟨zT,?_⟩) zN ?_;rotate_left
  ·(intro w hSw;(try dsimp only at hSw);go_simp<;>with_reducible rfl)
  (try simp only[Act.put,Aa,Ab,Ac])
  refine Al (i:=2) (oi:=_) (v:=?_) rfl zG zG zG (fun _ _ _ h=>h) (Or.inl ⟨zT,?_⟩) zN ?_;rotate_left
  ·(intro w hSw;(try dsimp only at hSw);go_simp<;>with_reducible rfl)
  (try simp only[Act.put,Aa,Ab,Ac])
  refine Al (i:=3) (oi:=_) (v:=?_) rfl zG zG zG (fun _ _ _ h=>h) (Or.inl ⟨zL,?_⟩) zN ?_;rotate_left
  ·(intro w hSw;(try dsimp only at hSw);go_simp<;>with_reducible rfl)
  (try simp only[Act.put,Aa,Ab,Ac])
  simp only[AE,Az,AA,Act.put,Aa,Ab,Ac];refine AF (rs:=[4]) zG zP ?_;refine Ax (o:=_) rfl (fun K hK=> ?_) AllReadyH.nil
  (go_simp;go_at_call 44;refine (HG.out _ HRD3.out).mono ?_;rintro e1 w7 ⟨rfl,hb7⟩;have E7:=E2.drew.later hb7;have P7:=P2.drew.later hb7;have Q7:=Q2.drew.later hb7;have R7:=R2.drew.later hb7;have HB7:=hid hb7;have hs7:w1.heap.size+1≤w7.heap.size:=(by have:=hb7.size;simp at this;omega);obtain⟨x0,x1,x2,x3,x4,x5,x6,x7,x8,x9,x10,x11,x12,x13,l1⟩:=AJ R7;obtain⟨f0,f1,f2,f3,f4,f5,f6,f7,f8,f9,f10,f11,f12,f13⟩:=Be R7;clear E2 P2 Q2 R2 hb7;(try dsimp only))
  refine hK.out _ _ ?_ (fun hHeld=> ?_)
  ·exact SK.out _ zF zF zF
  clear hK K
  (try simp only[Act.put,Aa,Ab,Ac])
  refine Al (i:=5) (oi:=_) (v:=?_) rfl zG zG zG (fun _ _ _ h=>h) (Or.inl ⟨zL,?_⟩) zN ?_;rotate_left
  ·(intro w hSw;(try dsimp only at hSw);go_simp<;>with_reducible rfl)
  (try simp only[Act.put,Aa,Ab,Ac])
  simp only[AE,Az,AA,Act.put,Aa,Ab,Ac];refine AF (rs:=[6]) zG zP ?_;refine Ax (o:=_) rfl (fun K hK=> ?_) AllReadyH.nil;go_simp
  refine hK.out _ _ ?_ (fun hHeld=> ?_)
  ·exact SK.out _ zF zF zF
  clear hK K
  (try simp only[Act.put,Aa,Ab,Ac])
  refine Al (i:=7) (oi:=_) (v:=?_) rfl zG zG zG (fun _ _ _ h=>h) (Or.inl ⟨zT,?_⟩) zN ?_;rotate_left
  ·(intro w hSw;(try dsimp only at hSw);go_simp<;>with_reducible rfl)
  (try simp only[Act.put,Aa,Ab,Ac])
  simp only[AE,Az,AA,Act.put,Aa,Ab,Ac];refine Bp zL ?_ _;go_wp2_with fail;have hput:=EJ (W:=w7) (m:=m) (v1:=.slice a1 m.streams.length c1) (v2:=.slice a2 m.links.length c2) (v3:=.slice a3 m.data.length c3) (v4:=.slice a4 m.proj.stripes.length c4) (cs:=#[]) R7;refine A9 (fun W=>Blk W (w.heap.size+1) 32 (Cf m (.slice a1 m.streams.length c1) (.slice a2 m.links.length c2) (.slice a3 m.data.length c3) (.slice a4 m.proj.stripes.length c4))∧Tch (·=w.heap.size+1) w7 W) ⟨hput,G5⟩ ?_;intro W5 ⟨q5,ht5⟩;obtain⟨n0,n1,n2,n3,n4,n5,n6,n7,n8,n9,n10,n11,n12,n13,ln⟩:=AJ q5;have hz5:=ht5.size;have hb1X:Below w1.heap.size w1 w7:=(HB12.out.drew).trans (HB7.out.mono zM);have hzX:=hb1X.size;have hbF:Below w.heap.size w1 W5:=(hb1X.mono zD).trans (ht5.Ba zD fun b _ e=>zD);have hdF:=hbF.size;refine Af (v:=.tuple #[.agg VA,.bool q]) zBk rfl ⟨_,_,_,_,rfl,I5 (fun q hq=>(ht5.block q (Am hq.2 hzX) zV).trans (hb1X.block q hq.2)) (fun q hq=>⟨zV,zAe⟩) HRW.out,⟨HRD.out.blk.below hbF hlt,Ah.mono (Ah.keep HIN0.out.dat fun x hx=>(hbF.block x hx.1).trans ((HTW.out.block x hx.1 hx.2).trans (HBW.out.block x hx.1).symm)) fun x hx=>⟨zD,hx.2⟩,HRD.out.ok⟩,HTW.out.trans (Tch.FU hbF) fun b hb hle=>zD⟩
theorem OC(h:(s.num B).1.k=0)(h1:0<Ed (s.num B).2):(s.head B).1=(s.num B).1∧(s.head B).2.2=Ed (s.num B).2∧((s.head B).2.1=true↔(s.num B).2%2=1):=by
 unfold Rs.head Ed at*;rw[An h];by_cases h2:(s.num B).2%2=0
 ·rw[Ak (by omega:¬(s.num B).2%2=1)]
  by_cases h3:(s.num B).2/2<1048576
  ·rw[Ak (by omega:¬1048575<(s.num B).2/2),An ⟨h2,h3⟩]
   exact⟨rfl,rfl,zM⟩
  ·rw[Ak zD,Ak zD] at h1;omega
 ·have h2':(s.num B).2%2=1:=by omega
  rw[An h2'];by_cases h3:(s.num B).2/2≤1048572
  ·rw[Ak (by omega:¬1048572<(s.num B).2/2),Ak zD,An ⟨h2',h3⟩]
   exact⟨rfl,rfl,by simp[h2']⟩
  ·rw[Ak zD,Ak zD] at h1;omega
theorem Tz(h:(s.num B).1.k=0)(h1:Ed (s.num B).2=0):s.head B=((s.num B).1.fail 2 s.p,false,0)∧(s.tok B).1=(s.num B).1.fail 2 s.p:=by
 unfold Rs.head Rs.tok Ed at*;rw[An h,An h];by_cases h2:(s.num B).2%2=0
 ·rw[Ak (by omega:¬(s.num B).2%2=1),An h2]
  by_cases h3:(s.num B).2/2<1048576
  ·rw[An ⟨h2,h3⟩] at h1;omega
  ·rw[An (by omega:1048575<(s.num B).2/2),An (by omega:1048576<(s.num B).2/2+1)]
   exact⟨rfl,rfl⟩
 ·have h2':(s.num B).2%2=1:=by omega
  rw[An h2',Ak h2];by_cases h3:(s.num B).2/2≤1048572
  ·rw[Ak zD,An ⟨h2',h3⟩] at h1;omega
  ·rw[An (by omega:1048572<(s.num B).2/2),An (by omega:1048572<(s.num B).2/2)]
   exact⟨rfl,rfl⟩
def Vm(B:List UInt8)(bound:Int)(s:Rs)(out:List UInt8):Prop:=(s.num B).1.k=0∧0<Ed (s.num B).2∧bound<(out.length:Int)+(Ed (s.num B).2:Int)
theorem Vu(h:Vm B bound s out):(BQ B bound s out).1.k=11∧(BQ B bound s out).1.f=s.p:=by
 obtain⟨h0,h1,h2⟩:=h;have hh:=OC h0 h1;unfold BQ;rw[An (by rw[hh.2.1];omega),hh.1];unfold Rs.fail;rw[An h0];exact⟨rfl,rfl⟩
theorem N3(h:(s.num B).1.k≠0):(BQ B bound s out).1=(s.tok B).1∧(s.tok B).1=(s.num B).1:=by
 have e:s.head B=((s.num B).1,false,0):=by unfold Rs.head;rw[Ak h]
 have e2:s.tok B=((s.num B).1,⟨[],0,0⟩):=by unfold Rs.tok;rw[Ak h]
 unfold BQ;rw[e,e2];dsimp only;rw[Rs.Bl h,Rs.J8 h];simp
theorem SR(h:(s.num B).1.k=0)(h1:Ed (s.num B).2=0):(BQ B bound s out).1=(s.tok B).1∧(s.tok B).1.k≠0:=by
 have hh:=Tz h h1;have hk:=Rs.BV (s:=(s.num B).1) (c:=2) (at_:=(s.p:Int)) zD;unfold BQ;rw[hh.1,hh.2];dsimp only;rw[Rs.Bl hk,Rs.J8 hk];refine⟨?_,hk⟩;split<;>simp
theorem SU{out:List UInt8}(h:(s.num B).1.k=0)(h1:0<Ed (s.num B).2)(h2:(out.length:Int)+(Ed (s.num B).2:Int)≤bound):
  if (s.tok B).1.k=0 then (if (out.length:Int)<(s.tok B).2.off then (BQ B bound s out).1.k=10∧(BQ B bound s out).1.f=(s.num B).1.p else BQ B bound s out=((s.tok B).1,DC (s.tok B).2.off.toNat (s.tok B).2.len.toNat (out++(s.tok B).2.lit))∧(((s.tok B).2.len=0∧(s.tok B).2.off=0∧1≤(s.tok B).2.lit.length∧(s.tok B).2.lit.length≤1048576)∨((s.tok B).2.lit=[]∧1≤(s.tok B).2.off∧(s.tok B).2.off≤out.length∧1≤(s.tok B).2.len∧(s.tok B).2.len≤1048576)))
  else (BQ B bound s out).1=(s.tok B).1:=by
 have hh:=OC h h1;unfold BQ;rw[hh.2.1,Ak (by omega:¬bound-(out.length:Int)<(Ed (s.num B).2:Int)),hh.1];unfold Rs.tok;rw[An h];by_cases hp:(s.num B).2%2=0
 ·have e1:(s.head B).2.1=false:=by
   cases hb:(s.head B).2.1
   ·rfl
   ·have:=hh.2.2.1 hb;omega
  have hR:Ed (s.num B).2=(s.num B).2/2+1:=by
   unfold Ed at h1 ⊢;split
   ·rfl
   ·rename_i hc;rw[Ak hc,Ak zD] at h1;omega
  have hx:(s.num B).2/2<1048576:=by
   unfold Ed at h1;by_cases hc:(s.num B).2/2<1048576
   ·exact hc
   ·rw[Ak zD,Ak zD] at h1;omega
  rw[An e1,An hp,Ak (by omega:¬1048576<(s.num B).2/2+1),hR];by_cases hk:((s.num B).1.take B (((s.num B).2/2+1:Nat):Int)).1.k=0
  ·have hl:=(Rs.Gs hk).2.2
   rw[An hk];dsimp only;rw[An hk,Ak (by omega:¬(out.length:Int)<0)];refine⟨by simp[DC],.inl ⟨rfl,rfl,by rw[hl];omega,by rw[hl];omega⟩⟩
  ·rw[Ak hk]
   dsimp only;rw[Ak hk]
 ·have hp':(s.num B).2%2=1:=by omega
  have e1:¬(s.head B).2.1=false:=by rw[hh.2.2.2 hp'];simp
  have hx:(s.num B).2/2≤1048572:=by
   unfold Ed at h1;by_cases hc:(s.num B).2/2≤1048572
   ·exact hc
   ·rw[Ak zD,Ak zD] at h1;omega
  have hR:Ed (s.num B).2=(s.num B).2/2+4:=by
   unfold Ed;rw[Ak zD,An ⟨hp',hx⟩]
  rw[Ak e1,Ak hp,Ak (by omega:¬1048572<(s.num B).2/2),hR];by_cases hk:((s.num B).1.num B).1.k=0
  ·rw[An hk]
   by_cases hy:65535<((s.num B).1.num B).2
   ·have ho:(s.num B).1.offset B=(((s.num B).1.num B).1.fail 10 (s.num B).1.p,0):=by
     unfold Rs.offset;dsimp only;rw[An (by omega:65536≤((s.num B).1.num B).2),Ak (Rs.BV zD)]
    rw[An hy,ho];dsimp only;rw[Ak (Rs.BV (s:=((s.num B).1.num B).1) (c:=10) (at_:=((s.num B).1.p:Int)) zD),Ak (by omega:¬out.length<0),Ak (Rs.BV (s:=((s.num B).1.num B).1) (c:=10) (at_:=((s.num B).1.p:Int)) zD)]
   ·have ho:(s.num B).1.offset B=(((s.num B).1.num B).1,((s.num B).1.num B).2+1):=by
     unfold Rs.offset;dsimp only;rw[Ak (by omega:¬65536≤((s.num B).1.num B).2),An hk]
    rw[Ak hy,ho];dsimp only;rw[An hk];by_cases hl:out.length<((s.num B).1.num B).2+1
    ·rw[An hl,An (by omega:(out.length:Int)<((((s.num B).1.num B).2+1:Nat):Int))]
     unfold Rs.fail;rw[An hk];exact⟨rfl,rfl⟩
    ·rw[Ak hl,Ak zD,An hk]
     exact⟨by rw[List.append_nil];rfl,.inr ⟨rfl,zD,zD,zD,zD⟩⟩
  ·have ho:(s.num B).1.offset B=(((s.num B).1.num B).1,0):=by
    unfold Rs.offset;dsimp only;rw[Rs.Gg hk,Ak (by omega:¬65536≤0),Ak hk]
   rw[Ak hk,ho];dsimp only;rw[Ak hk,Ak (by omega:¬out.length<0),Ak hk]
end Go.Proofs.YtlbffbkbkajciaaGreat
