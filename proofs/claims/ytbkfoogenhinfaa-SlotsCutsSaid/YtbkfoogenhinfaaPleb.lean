/- Slots: what is read behind all; the law's own example. -/
import Derived.Test.YtbkfoogenhinfaaPlea
set_option linter.unusedVariables false
set_option linter.unusedSimpArgs false
set_option maxRecDepth 4000
namespace Go.Ideal.Seat
open Go.Ideal.Plain
theorem all_text {t:List Int} {w:Dsk} {p:Int}:∀k,k≤parts t→(∀i:Nat,i<k→(w.rd (p+1+i)).1=blkI t i)→(allB w p k).length=256*k∧(allB w p k).take t.length=t.take (256*k)
 |0,_,_=>⟨rfl,by simp[allB]⟩
 |k+1,hk,h=>by
  obtain⟨i1,i2⟩:=all_text k (by omega) (fun i hi=>h i (by omega))
  have hlt:256*k<t.length:=parts_lt.1 (by omega)
  have hb:=h k (by omega)
  have i3:allB w p k=t.take (256*k):=by rw[←i2,List.take_of_length_le (by omega)]
  have hp:(partI t k).length=min 256 (t.length-256*k):=by unfold partI;rw[List.length_take,List.length_drop]
  refine⟨by rw[allB,List.length_append,i1,hb,blkI_len];omega,?_⟩
  rw[allB,hb,i3,List.take_append,List.length_take,Nat.min_eq_left (by omega),List.take_of_length_le (by rw[List.length_take];omega)]
  have e:(blkI t k).take (t.length-256*k)=partI t k:=by
   unfold blkI
   by_cases c:t.length-256*k≤256
   ·rw[List.take_append_of_le_length (by omega),List.take_of_length_le (by omega)]
   ·rw[show 256-(partI t k).length=0 by omega]
    simp only[List.replicate_zero,List.append_nil]
    rw[List.take_of_length_le (by omega)]
  rw[e,show 256*(k+1)=256*k+256 by omega,List.take_add]
  rfl
theorem low_head {bs:List (List Int)} {c:Option Nat} {fr n q:Nat} {g pl:Int} (h:q<bs.length) (e:(fr:Int)+pl*(n:Int)=((q:Nat):Int)) (l:Low g (bs.getD q [])):
 (sHead (idle bs c) fr n pl).2.2=0∧((sHead (idle bs c) fr n pl).2.1=true→(sHead (idle bs c) fr n pl).1.1<g):=by
 unfold sHead
 rw[e,idle_rd h,if_neg (fun h=>h rfl),if_neg l.1]
 split
 ·exact⟨rfl,fun h=>by cases h⟩
 ·rename_i hc
  refine⟨rfl,fun _=>?_⟩
  rcases l.2 with l|l
  ·exact(hc (.inl l)).elim
  ·exact l
theorem inv_read {fr n g:Nat} {t:List Int} {bs:List (List Int)} {c:Option Nat} (I:Inv fr n g t bs) (hg:1≤g):sRead (idle bs c) fr n=((g:Int),t,0):=by
 have two:=I.two
 have fit:=I.fit
 obtain⟨t8,tl,te⟩:=I.good hg
 have hd:=I.hd hg
 have txt:=I.txt hg
 have low:=I.low
 have hpl:=parts_le tl
 have hpq:plc fr n g<bs.length∧plc fr n (g+1)<bs.length∧plc fr n g+n≤bs.length:=by rcases plc_cases fr n g with ⟨a,b⟩|⟨a,b⟩<;>omega
 have ep:∀k:Nat,(fr:Int)+((k%2:Nat):Int)*(n:Int)=((plc fr n k:Nat):Int):=fun k=>by unfold plc;push_cast;rfl
 have hm:Int.tmod (g:Int) 2=((g%2:Nat):Int):=by rw[tm2 (by omega)];omega
 have hr:recR (bs.getD (plc fr n g) [])=(((g:Int),(t.length:Int),sum4 t),0):=by rw[hd];exact recR_made te (sum4_B8 t)
 have good:sHead (idle bs c) fr n ((g%2:Nat):Int)=(((g:Int),(t.length:Int),sum4 t),true,0):=by
  unfold sHead
  rw[ep g,idle_rd hpq.1,if_neg (fun h=>h rfl),hr,if_neg (show ¬(0:Int)=21 by decide),if_neg]
  rintro (h|h|h)
  ·exact h rfl
  ·exact h hm
  ·have:((t.length:Nat):Int)>((n:Int)-1)*256:=h
   omega
 have text:sText (idle bs c) fr n ((g:Int),(t.length:Int),sum4 t)=(t,0):=by
  unfold sText
  dsimp only
  rw[hm,ep g,show ((n:Int)).toNat-1=n-1 by omega,Int.toNat_natCast]
  have rds:Reads (idle bs c) ((plc fr n g:Nat):Int) (n-1):=fun i hi=>by
   rw[show ((plc fr n g:Nat):Int)+1+(i:Int)=((plc fr n g+1+i:Nat):Int) by omega,idle_rd (by omega)]
  have a1:=all_text (t:=t) (w:=idle bs c) (p:=((plc fr n g:Nat):Int)) (parts t) (Nat.le_refl _) (fun i hi=>by
   rw[show ((plc fr n g:Nat):Int)+1+(i:Int)=((plc fr n g+1+i:Nat):Int) by omega,idle_rd (by omega)]
   exact txt i hi)
  have hge:t.length≤256*parts t:=by unfold parts;omega
  have ok:(idle bs c).Ok 1∨True:=.inr trivial
  have a2:(allB (idle bs c) ((plc fr n g:Nat):Int) (n-1)).take t.length=(allB (idle bs c) ((plc fr n g:Nat):Int) (parts t)).take t.length:=by
   have key:∀j,parts t+j≤n-1→(allB (idle bs c) ((plc fr n g:Nat):Int) (parts t+j)).take t.length=(allB (idle bs c) ((plc fr n g:Nat):Int) (parts t)).take t.length∧t.length≤(allB (idle bs c) ((plc fr n g:Nat):Int) (parts t+j)).length:=by
    intro j
    induction j with
    |zero=>intro _;exact⟨rfl,by rw[Nat.add_zero,a1.1];exact hge⟩
    |succ j ih=>
     intro hj
     obtain⟨b1,b2⟩:=ih (by omega)
     rw[←Nat.add_assoc,allB]
     exact⟨by rw[List.take_append_of_le_length b2];exact b1,by rw[List.length_append];omega⟩
   have:=(key (n-1-parts t) (by omega)).1
   rwa [show parts t+(n-1-parts t)=n-1 by omega]at this
  rw[a2,a1.2,List.take_of_length_le hge,if_pos rfl]
 have lh:=low_head (c:=c) (g:=(g:Int)) (pl:=(((g+1)%2:Nat):Int)) (fr:=fr) (n:=n) hpq.2.1 (ep (g+1)) low
 unfold sRead
 rcases Nat.mod_two_eq_zero_or_one g with h|h
 ·have h':(g+1)%2=1:=by omega
  rw[h]at good
  rw[h']at lh
  rw[show ((0:Nat):Int)=0 from rfl]at good
  rw[show ((1:Nat):Int)=1 from rfl]at lh
  rw[good,if_neg (fun h=>h rfl),if_neg (fun h=>h lh.1),if_neg (by rintro⟨h,_⟩;cases h)]
  rw[if_neg (show ¬(true=false∨(sHead (idle bs c) fr n 1).2.1=true∧(sHead (idle bs c) fr n 1).1.1>(g:Int)) from by
   rintro (h|⟨h,h2⟩)
   ·cases h
   ·have:=lh.2 h;omega)]
  dsimp only
  rw[text,if_neg (fun h=>h rfl)]
 ·have h':(g+1)%2=0:=by omega
  rw[h]at good
  rw[h']at lh
  rw[show ((1:Nat):Int)=1 from rfl]at good
  rw[show ((0:Nat):Int)=0 from rfl]at lh
  rw[good,if_neg (fun h=>h lh.1),if_neg (fun h=>h rfl),if_neg (by rintro⟨_,h⟩;cases h)]
  have:(sHead (idle bs c) fr n 0).2.1=false∨((true=true)∧(g:Int)>(sHead (idle bs c) fr n 0).1.1):=by
   cases hh:(sHead (idle bs c) fr n 0).2.1 with
   |false=>exact .inl rfl
   |true=>exact .inr ⟨rfl,lh.2 hh⟩
  rw[if_pos this]
  dsimp only
  rw[text,if_neg (fun h=>h rfl)]
theorem sNew_eq (w:Dsk) (fr n:Int) (h:w.blocks.length≤256):O_slots_New (w.toD,fr,n)=some (w.toD,if fr<0∨n<2∨n>(w.blocks.length:Int)/2∨fr>w.blocks.length-2*n then (none,1) else (some ((),fr,n),0)):=by
 unfold O_slots_New O_disk_Disk_Blocks
 have hb:w.toD.1.length=w.blocks.length:=rfl
 simp only[Option.bind_some,hb]
 by_cases a:fr<0
 ·simp only[a,decide_true,show (true==false)=false from rfl,cond_false,Option.bind_some,cond_true,true_or,if_true]
 by_cases b:n<2
 ·simp only[a,b,decide_true,decide_false,beq_self_eq_true,show (true==false)=false from rfl,cond_false,Option.bind_some,cond_true,true_or,or_true,if_true]
 have hd:Int.tdiv (w.blocks.length:Int) 2=(w.blocks.length:Int)/2:=Int.tdiv_eq_ediv_of_nonneg (by omega)
 have hw0:IntKind.wrap .i64 ((w.blocks.length:Int)/2)=(w.blocks.length:Int)/2:=w64 (by omega) (by omega)
 simp only[hd,hw0]
 by_cases c:n>(w.blocks.length:Int)/2
 ·simp only[a,b,c,decide_true,decide_false,beq_self_eq_true,show (true==false)=false from rfl,cond_false,Option.bind_some,cond_true,true_or,or_true,if_true]
 have hw1:IntKind.wrap .i64 (2*n)=2*n:=w64 (by omega) (by omega)
 have hw:IntKind.wrap .i64 ((w.blocks.length:Int)-2*n)=(w.blocks.length:Int)-2*n:=w64 (by omega) (by omega)
 simp only[a,b,c,hw,hw1,decide_false,beq_self_eq_true,cond_true,Option.bind_some,false_or]
 by_cases d:fr>(w.blocks.length:Int)-2*n
 ·simp only[d,decide_true,cond_true,if_true]
 ·simp only[d,decide_false,cond_false,if_false]
theorem zB_low (g:Int):Low g zB:=low_zero zB_ok.1 (by rw[List.getD_eq_getElem?_getD,zB,List.getElem?_replicate];rfl)
theorem inv_new {fr n m:Nat} (hn:2≤n) (h:fr+2*n≤m) (hm:m≤256):Inv fr n 0 [] (List.replicate m zB):=by
 have hp:plc fr n 0=fr:=by unfold plc;simp
 have hq:plc fr n 1=fr+n:=by unfold plc;simp
 refine⟨rep_blk m,by rw[List.length_replicate];exact h,by rw[List.length_replicate];exact hm,hn,fun h=>by omega,fun h=>by omega,fun h=>by omega,?_,fun _=>?_⟩
 ·show Low _ ((List.replicate m zB).getD (plc fr n 1) [])
  rw[hq,rep_get (by omega)];exact zB_low _
 ·rw[hp,rep_get (by omega)];exact zB_low _
theorem good_small {n g:Nat} {t:List Int} (h8:B8 t) (hl:t.length≤256*(n-1)) (hn:n≤128) (hg:g<72057594037927936):GoodT n g t:=
 ⟨h8,hl,recErr_zero.2 ⟨by omega,by omega,by omega,by omega,by rw[sum4_len];omega⟩⟩
theorem awake24:F_batonlaw24_awake ()=some true:=by
 have h8:B8 [97]:=fun x hx=>by rw[List.mem_singleton]at hx;omega
 have I:=inv_new (fr:=0) (n:=2) (m:=4) (by omega) (by omega) (by omega)
 have W:=write_left (c:=none) I (good_small (g:=0+1) (n:=2) h8 (by simp) (by omega) (by omega))
 rcases W with ⟨h1,bs',c',h2,h3,h4⟩|⟨_,h,_⟩
 rotate_left
 ·exact(h rfl).elim
 have hc:c'=none:=by cases c' with|none=>rfl|some k=>exact h3.elim
 subst hc
 have R:=inv_read (c:=none) h4 (by omega)
 have n4:=newD_eq 4 (by omega) (by omega)
 have l4:(newD 4).blocks.length=4:=List.length_replicate
 have j4:=sNew_eq (newD 4) 0 2 (by rw[l4];omega)
 rw[l4,if_neg (by omega)]at j4
 rw[show ((4:Nat):Int)=4 from rfl]at n4
 have e1:=sWrite_eq (w:=newD 4) (newD_ok 4 (by omega)) (by omega) (fr:=0) (n:=2) (g:=1) h8 (by omega) (by omega) (by omega) (by omega)
 have hok:(idle bs' none).Ok 1:=ok_of h4.blk h4.few (fun x hx=>by cases hx) (by simp) (fun k h=>by cases h)
 have e2:=sRead_eq hok (by omega) (fr:=0) (n:=2) (by omega) (by omega) (by have:=h4.fit;show (0:Int)+2*2≤(bs'.length:Int);omega)
 have h1':(sWrite (newD 4) 0 2 1 [97]).2=0:=h1
 have h2':(sWrite (newD 4) 0 2 1 [97]).1=idle bs' none:=h2
 have R':sRead (idle bs' none) 0 2=(1,[97],0):=R
 unfold F_batonlaw24_awake
 rw[n4]
 simp only[Option.bind_some,bne_self_eq_false,beq_self_eq_true,cond_true,Option.isNone_some,cond_false,j4]
 simp only[List.length_singleton,show decide (0<1)=true from rfl,cond_true,e1,Option.bind_some,h1',h2',bne_self_eq_false,cond_false,e2,R',beq_self_eq_true]
 rfl
end Go.Ideal.Seat
set_option linter.unusedVariables false
set_option linter.unusedSimpArgs false
set_option maxRecDepth 4000
namespace Go.Ideal.Seat
open Go.Ideal.Plain
def FinS (l:List (List Int)) (w:Dsk) (last:Int):Prop:=∃(g:Nat) (hg:g<l.length),last=(g:Int)∧(∃m,m≤200∧w.Ok m)∧
 ((∀picks,∃bs,w.crash picks=idle bs none∧Inv 1 3 (g+1) l[g] bs)∨
  (w.down=true∧∃hg2:g+1<l.length,∀picks,∃bs,w.crash picks=idle bs none∧(Inv 1 3 (g+1) l[g] bs∨Inv 1 3 (g+2) l[g+1] bs)))
def MidS (l:List (List Int)) (cut:Int) (i:Nat) (a:Dsk×Int):Prop:=∃bs c,a.1=idle bs c∧(i≤1→c=none)∧(∀k,c=some k→k<9223372036854775808)∧a.2=(i:Int)-1∧Inv 1 3 i (l.getD (i-1) []) bs
theorem midS_next {l:List (List Int)} {cut:Int} (hcut:cut<9223372036854775808) (h8:∀d∈l,B8 d) (h6:l.length≤6) {i:Nat} {a:Dsk×Int} (h:MidS l cut i a) (hi:i<l.length) (hs:l[i].length≤512):
 ∃w',(bif ((i:Int)==1) then (a.1.cutAt cut) else a.1)=w'∧w'.Ok 1∧(((sWrite w' 1 3 ((i:Int)+1) l[i]).2=0∧MidS l cut (i+1) ((sWrite w' 1 3 ((i:Int)+1) l[i]).1,(i:Int)))∨((sWrite w' 1 3 ((i:Int)+1) l[i]).2=19∧i≠0∧FinS l (sWrite w' 1 3 ((i:Int)+1) l[i]).1 a.2)):=by
 obtain⟨bs,c,h1,h2,h3,h4,h5⟩:=h
 refine⟨_,rfl,?_⟩
 have hw:∃c',(bif ((i:Int)==1) then (a.1.cutAt cut) else a.1)=idle bs c'∧(i=0→c'=none)∧(∀k,c'=some k→k<9223372036854775808):=by
  by_cases hi1:i=1
  ·subst hi1
   refine⟨some cut.toNat,?_,fun h=>by omega,fun k hk=>by simp at hk;omega⟩
   rw[h1];rfl
  ·have:((i:Int)==1)=false:=by simp;omega
   rw[this]
   exact⟨c,h1,fun h=>h2 (by omega),h3⟩
 obtain⟨c',hw,hc0,hcb⟩:=hw
 rw[hw]
 have ok1:(idle bs c').Ok 1:=idle_ok h5.blk h5.few hcb
 have hd8:=h8 _ (List.getElem_mem hi)
 have hgood:GoodT 3 (i+1) l[i]:=good_small hd8 (by omega) (by omega) (by omega)
 have hp:=parts_le hgood.2.1
 have W:=write_left (c:=c') h5 hgood
 have e:((i+1:Nat):Int)=(i:Int)+1:=by omega
 rw[e,show ((1:Nat):Int)=1 from rfl,show ((3:Nat):Int)=3 from rfl]at W
 refine⟨ok1,?_⟩
 have okw:=sWrite_ok ok1 1 3 ((i:Int)+1) hd8
 have eg:l.getD i []=l[i]:=by rw[List.getD_eq_getElem?_getD,List.getElem?_eq_getElem hi];rfl
 rcases W with ⟨r0,bs',c2,r1,r2,r3⟩|⟨r0,r1,r2,r3⟩
 ·refine .inl ⟨r0,bs',c2,r1,fun h=>?_,fun k hk=>?_,by show (i:Int)=((i+1:Nat):Int)-1;omega,by rw[Nat.add_sub_cancel,eg];exact r3⟩
  ·have:=hc0 (by omega)
   subst this
   cases c2 with|none=>rfl|some k=>exact r2.elim
  ·subst hk
   cases c' with
   |none=>exact r2.elim
   |some j=>exact Nat.lt_of_le_of_lt r2 (hcb j rfl)
 ·have hi0:i≠0:=fun h=>r1 (hc0 h)
  refine .inr ⟨r0,hi0,i-1,by omega,by rw[h4];omega,⟨_,by omega,okw⟩,.inr ⟨r2,by omega,fun picks=>?_⟩⟩
  obtain⟨bs',k1,k2⟩:=r3 picks
  have eg':l.getD (i-1) []=l[i-1]:=by rw[List.getD_eq_getElem?_getD,List.getElem?_eq_getElem (by omega)];rfl
  refine⟨bs',k1,?_⟩
  rw[eg']at k2
  have e1:i-1+1=i:=by omega
  have e2:i-1+2=i+1:=by omega
  rcases k2 with k2|k2
  ·left;simpa [e1]using k2
  ·right;simpa [e1,e2]using k2
theorem cuts_law24 (x:List (List Int)×Int×List Int) (h:∀d∈x.1,B8 d) (hc:x.2.1<9223372036854775808):F_batonlaw24_SlotsCuts x=some true:=by
 obtain⟨l,cut,picks⟩:=x
 dsimp only at h hc
 unfold F_batonlaw24_SlotsCuts
 simp only[awake24,Option.bind_some,Bool.not_true,cond_false]
 have q:∀a b c:Prop,∀[Decidable a] [Decidable b] [Decidable c],(bif (decide a==false) then (bif (decide b==false) then some (decide c) else some true) else some true)=some (decide (a∨b∨c)):=by
  intro a b c _ _ _
  by_cases a<;>by_cases b<;>simp[*]
 simp only[q,Option.bind_some]
 by_cases hl:((l.length:Int)<1∨(l.length:Int)>6∨(picks.length:Int)>10)
 ·simp only[hl,decide_true,cond_true]
 simp only[hl,decide_false,cond_false]
 have n8:=newD_eq 8 (by omega) (by omega)
 have l8:(newD 8).blocks.length=8:=List.length_replicate
 have j8:=sNew_eq (newD 8) 1 3 (by rw[l8];omega)
 rw[l8,if_neg (by omega)]at j8
 rw[show ((8:Nat):Int)=8 from rfl]at n8
 rw[n8]
 simp only[Option.bind_some,bne_self_eq_false,beq_self_eq_true,cond_true,Option.isNone_some,cond_false,j8]
 refine bind_ex' (Q:=fun v=>v = .inl true∨∃(w:Dsk) (last i:Int),v = .inr (w.blocks,w.waits,w.bad,w.down,Dsk.left w.cut,some ((),1,3),last,i)∧FinS l w last) ?_ ?_
 ·refine invLoop (l:=l) (fun(a:Dsk×Int) i=>(a.1.blocks,a.1.waits,a.1.bad,a.1.down,Dsk.left a.1.cut,some ((),1,3),a.2,i)) (fun i a=>MidS l cut i a) _ (a:=(newD 8,-1)) ?_ (fun a i e he hi hM=>?_) (fun a hM=>?_)
  ·have I:=inv_new (fr:=1) (n:=3) (m:=8) (by omega) (by omega) (by omega)
   exact⟨_,none,newD_idle 8,(fun _=>rfl),(fun k h=>by cases h),rfl,⟨I.blk,I.fit,I.few,I.two,(fun h=>by omega),(fun h=>by omega),(fun h=>by omega),I.low,I.low0⟩⟩
  ·have c:(i:Int)<(l.length:Int):=by omega
   have hel:l[i]=e:=by rw[List.getElem?_eq_getElem hi]at he;injection he
   by_cases hbig:(((e.length:Nat):Int)>512)
   ·refine .inr ⟨.inl true,?_,.inl rfl⟩
    simp only[c,decide_true,cond_true,Int.natCast_nonneg,Int.toNat_natCast,he,Option.bind_some,hbig]
   obtain⟨w',hw,ok1,hn⟩:=midS_next hc h (by omega) hM hi (by rw[hel];omega)
   have bD:∀w:Dsk,(w.blocks,w.waits,w.bad,w.down,Dsk.left w.cut)=w.toD:=fun _=>rfl
   have v:(bif ((i:Int)==1) then ((O_disk_Disk_Cut (a.1.toD,cut)).bind fun r=>some r) else some a.1.toD)=some w'.toD:=by
    rw[←hw]
    cases ((i:Int)==1) with
    |false=>rfl
    |true=>rw[cond_true,cut_eq];rfl
   have w1:IntKind.wrap .i64 ((i:Int)+1)=(i:Int)+1:=w64 (by omega) (by omega)
   rw[hel]at hn
   have we:=sWrite_eq ok1 (by omega) (fr:=1) (n:=3) (g:=(i:Int)+1) (b:=e) (h _ (List.mem_of_getElem? he)) (by omega) (by omega) (by omega) (by omega)
   simp only[Dsk.toD]at v
   have red:∀{β:Type} (k:Dsk×Int→β),True:=fun _=>trivial
   rcases hn with ⟨r0,r1⟩|⟨r0,r1,r2⟩
   ·refine .inl ⟨((sWrite w' 1 3 ((i:Int)+1) e).1,(i:Int)),?_,r1⟩
    simp only[c,decide_true,cond_true,Int.natCast_nonneg,Int.toNat_natCast,he,Option.bind_some,hbig,decide_false,cond_false,v,w1]
    simp only[bD,we,Option.bind_some,r0,bne_self_eq_false,show (false==true)=false from rfl,cond_false]
    rw[show (i:Int)+1=((i+1:Nat):Int) by omega]
    rfl
   ·refine .inr ⟨.inr ((sWrite w' 1 3 ((i:Int)+1) e).1.blocks,(sWrite w' 1 3 ((i:Int)+1) e).1.waits,(sWrite w' 1 3 ((i:Int)+1) e).1.bad,(sWrite w' 1 3 ((i:Int)+1) e).1.down,Dsk.left (sWrite w' 1 3 ((i:Int)+1) e).1.cut,some ((),1,3),a.2,(i:Int)),?_,.inr ⟨_,_,_,rfl,r2⟩⟩
    have i0:((i:Int)==0)=false:=by simp;omega
    simp only[c,decide_true,cond_true,Int.natCast_nonneg,Int.toNat_natCast,he,Option.bind_some,hbig,decide_false,cond_false,v,w1]
    simp only[bD,we,Option.bind_some,r0,show ((19:Int) != 0)=true from rfl,show (true==true)=true from rfl,show ((19:Int) != 19)=false from rfl,show (false==false)=true from rfl,i0,cond_true,cond_false]
    rfl
  ·have c:¬((l.length:Int)<(l.length:Int)):=by omega
   refine⟨_,by simp only[c,decide_false,cond_false],.inr ⟨a.1,a.2,(l.length:Int),rfl,?_⟩⟩
   obtain⟨bs,c,h1,h2,h3,h4,h5⟩:=hM
   have eg:l.getD (l.length-1) []=l[l.length-1]'(by omega):=by rw[List.getD_eq_getElem?_getD,List.getElem?_eq_getElem (by omega)];rfl
   refine⟨l.length-1,by omega,by rw[h4];omega,⟨1,by omega,by rw[h1];exact idle_ok h5.blk h5.few h3⟩,.inl fun picks=>⟨bs,by rw[h1];exact crash_none picks,?_⟩⟩
   rw[eg]at h5
   rw[show l.length-1+1=l.length by omega]
   exact h5
 ·rintro v (rfl|⟨w,last,i,rfl,g,hg,rfl,⟨m,hm,ok⟩,hcr⟩)
  ·rfl
  have bD:∀w:Dsk,(w.blocks,w.waits,w.bad,w.down,Dsk.left w.cut)=w.toD:=fun _=>rfl
  have cr:=crash_eq ok (by omega) picks (by omega)
  have up:O_disk_Disk_Up w.toD=some (w.toD,!w.down):=rfl
  have okc:=crash_ok ok picks
  have fit:∀{g:Nat} {t bs:_},Inv 1 3 g t bs→w.crash picks=idle bs none→(1:Int)+2*3≤(w.crash picks).blocks.length:=fun I e=>by
   have:=I.fit
   rw[e];unfold idle;dsimp only;omega
  have w1:IntKind.wrap .i64 ((g:Int)+1)=(g:Int)+1:=w64 (by omega) (by omega)
  have w2:IntKind.wrap .i64 ((g:Int)+2)=(g:Int)+2:=w64 (by omega) (by omega)
  have hg1:l[g]? = some l[g]:=List.getElem?_eq_getElem hg
  have fin1:∀bs,w.crash picks=idle bs none→Inv 1 3 (g+1) l[g] bs→sRead (w.crash picks) 1 3=((g:Int)+1,l[g],0)∧(1:Int)+2*3≤(w.crash picks).blocks.length:=fun bs e I=>by
   refine⟨?_,fit I e⟩
   rw[e,show ((g:Int)+1)=((g+1:Nat):Int) by omega]
   exact inv_read I (by omega)
  have go1:sRead (w.crash picks) 1 3=((g:Int)+1,l[g],0)→(1:Int)+2*3≤(w.crash picks).blocks.length→_:=fun R F=>sRead_eq okc (by omega) (fr:=1) (n:=3) (by omega) (by omega) F
  have small:(l[g]).length<2^60∨True:=.inr trivial
  have glen:∀{k:Nat} {t:List Int} {bs},Inv 1 3 k t bs→1≤k→t.length<2^60:=fun I h=>by have:=(I.good h).2.1;omega
  dsimp only
  simp only[bD,up,Option.bind_some,cr]
  rcases hcr with hcr|⟨hdn,hg2,hcr⟩
  ·obtain⟨bs,k1,k2⟩:=hcr picks
   obtain⟨R,F⟩:=fin1 bs k1 k2
   have re:=sRead_eq okc (by omega) (fr:=1) (n:=3) (by omega) (by omega) F
   simp only[re,R,Option.bind_some,bne_self_eq_false,cond_false,w1,beq_self_eq_true,cond_true,Int.natCast_nonneg,Int.toNat_natCast,decide_true,hg1,bsame _ _ (glen k2 (by omega))]
  ·obtain⟨bs,k1,k2⟩:=hcr picks
   rcases k2 with k2|k2
   ·obtain⟨R,F⟩:=fin1 bs k1 k2
    have re:=sRead_eq okc (by omega) (fr:=1) (n:=3) (by omega) (by omega) F
    simp only[re,R,Option.bind_some,bne_self_eq_false,cond_false,w1,beq_self_eq_true,cond_true,Int.natCast_nonneg,Int.toNat_natCast,decide_true,hg1,bsame _ _ (glen k2 (by omega))]
   ·have F:=fit k2 k1
    have R:sRead (w.crash picks) 1 3=((g:Int)+2,l[g+1],0):=by
     rw[k1,show ((g:Int)+2)=((g+2:Nat):Int) by omega]
     exact inv_read k2 (by omega)
    have re:=sRead_eq okc (by omega) (fr:=1) (n:=3) (by omega) (by omega) F
    have ne:(((g:Int)+2)==((g:Int)+1))=false:=by simp
    have lt:((g:Int)+1<(l.length:Int)):=by omega
    have nn:(0:Int)≤(g:Int)+1:=by omega
    have tn:((g:Int)+1).toNat=g+1:=by omega
    have hg2':l[g+1]? = some l[g+1]:=List.getElem?_eq_getElem hg2
    simp only[re,R,Option.bind_some,bne_self_eq_false,cond_false,w1,w2,ne,show (false==true)=false from rfl,hdn,Bool.not_true,Bool.not_false,beq_self_eq_true,lt,nn,tn,decide_true,cond_true,hg2',bsame _ _ (glen k2 (by omega))]
end Go.Ideal.Seat
