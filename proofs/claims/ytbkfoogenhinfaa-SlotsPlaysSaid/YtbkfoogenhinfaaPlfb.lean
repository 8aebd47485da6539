/- Slots: what a Write leaves when the power goes. -/
import Derived.Test.YtbkfoogenhinfaaPlfa
set_option linter.unusedVariables false
set_option linter.unusedSimpArgs false
set_option maxRecDepth 4000
namespace Go.Ideal.Seat
open Go.Ideal.Plain
def Low (g:Int) (b:List Int):Prop:=(recR b).2≠21/\((recR b).2≠0\/(recR b).1.1<g)
theorem low_zero {g:Int} {b:List Int} (h:b.length=256) (hz:b.getD 255 0=0):Low g b:=by
 have:recR b=((0,0,[]),3):=by
  classical
  unfold recR
  rw[if_neg (fun h'=>h' h),if_pos hz]
 unfold Low;rw[this];exact⟨by show (3:Int)≠21;decide,.inl (by show (3:Int)≠0;decide)⟩
theorem low_made {g h n:Int} {d:List Int} (he:recErr g n d=0) (hd:B8 d) (hg:g<h):Low h (fullB g n d):=by
 unfold Low fullB;rw[recR_made he hd];exact⟨(by show (0:Int)≠21;decide),.inr hg⟩
def wX:Option Nat->Option Nat->Prop
 |none,none=>True
 |some k,some j=>k≤j
 |_,_=>False
theorem wX.refl:∀c,wX c c
 |none=>trivial
 |some k=>aK k
theorem wX.trans:∀{a b c:Option Nat},wX a b->wX b c->wX a c
 |none,none,none,_,_=>trivial
 |some _,some _,some _,h,h'=>cQ (show _≤_ from h) (show _≤_ from h')
 |none,some _,_,h,_=>h.elim
 |some _,none,_,h,_=>h.elim
 |none,none,some _,_,h=>h.elim
 |some _,some _,none,_,h=>h.elim
theorem put_at {bs:List (List Int)} {ws:List Wr} {c:Option Nat} {n:Nat} {b:List Int} (h:n<bs.length) (hl:b.length=256):(⟨bs,ws,[],false,c⟩:Dsk).put (n:Int) b=match c with
 |none=>(⟨bs,ws++[((n:Int),b)],[],false,none⟩,0)
 |some 0=>(⟨bs,ws,[],true,some 0⟩,19)
 |some (k+1)=>(⟨bs,ws++[((n:Int),b)],[],false,some k⟩,0):=by
 have ht:(⟨bs,ws,[],false,c⟩:Dsk).there (n:Int):=⟨by omega,by show (n:Int)<(bs.length:Int);omega⟩
 unfold Dsk.put
 rw[if_neg (show ¬(false=true) by decide),if_neg (by rintro (h'|h');exact h' ht;exact h' hl),if_neg (by show ¬(n:Int)∈[];simp)]
 match c with
 |none=>simp[Dsk.step]
 |some 0=>simp[Dsk.step]
 |some (k+1)=>simp[Dsk.step]
def layAll (bs:List (List Int)) (ws:List Wr):List (List Int):=ws.foldl (fun bs x=>layB bs x 256) bs
theorem sync_at (bs:List (List Int)) (ws:List Wr) (c:Option Nat):(⟨bs,ws,[],false,c⟩:Dsk).sync=match c with
 |none=>(idle (layAll bs ws) none,0)
 |some 0=>(⟨bs,ws,[],true,some 0⟩,19)
 |some (k+1)=>(idle (layAll bs ws) (some k),0):=by
 unfold Dsk.sync
 rw[if_neg (show ¬(false=true) by decide)]
 match c with
 |none=>simp[Dsk.step,idle,layAll]
 |some 0=>simp[Dsk.step]
 |some (k+1)=>simp[Dsk.step,idle,layAll]
def txtW (b:List Int) (p:Nat):Nat->Nat->List Wr
 |0,_=>[]
 |k+1,i=>(((p+1+i:Nat):Int),blkI b i)::txtW b p k (i+1)
theorem txtW_mem {b:List Int} {p:Nat}:∀{k i:Nat} {x:Wr},x∈txtW b p k i->∃j,i≤j/\j<i+k/\x=(((p+1+j:Nat):Int),blkI b j)
 |0,_,_,h=>by cases h
 |k+1,i,x,h=>by
  rcases aQ.1 h with rfl|h
  ·exact⟨i,aK _,by omega,rfl⟩
  ·obtain⟨j,h1,h2,h3⟩:=txtW_mem h
   exact⟨j,by omega,by omega,h3⟩
theorem putN_at {b:List Int} {p:Nat} {bs:List (List Int)}:∀(k i:Nat) (ws:List Wr) (c:Option Nat),p+1+i+k≤bs.length->
 (∃c',putN b (p:Int) k ⟨bs,ws,[],false,c⟩ i=(⟨bs,ws++txtW b p k i,[],false,c'⟩,0)/\wX c' c)\/
 (c≠none/\∃W,(∀x∈W,x∈txtW b p k i)/\putN b (p:Int) k ⟨bs,ws,[],false,c⟩ i=(⟨bs,ws++W,[],true,some 0⟩,19))
 |0,i,ws,c,_=>.inl ⟨c,by simp[putN,txtW],wX.refl c⟩
 |k+1,i,ws,c,h=>by
  have e:((p:Int)+1+(i:Int))=((p+1+i:Nat):Int):=by omega
  unfold putN
  rw[e,put_at (by omega) (blkI_len b i)]
  match c with
  |none=>
   rw[if_neg (fun h=>h rfl)]
   rcases putN_at (b:=b) (p:=p) (bs:=bs) k (i+1) (ws++[(((p+1+i:Nat):Int),blkI b i)]) none (by omega)with ⟨c',h1,h2⟩|⟨h1,_⟩
   ·exact .inl ⟨c',by dsimp only;rw[h1,bQ];rfl,h2⟩
   ·exact(h1 rfl).elim
  |some 0=>
   rw[if_pos (show (19:Int)≠0 by decide)]
   exact .inr ⟨by simp,[],(fun x hx=>by cases hx),by rw[bA]⟩
  |some (j+1)=>
   rw[if_neg (fun h=>h rfl)]
   rcases putN_at (b:=b) (p:=p) (bs:=bs) k (i+1) (ws++[(((p+1+i:Nat):Int),blkI b i)]) (some j) (by omega)with ⟨c',h1,h2⟩|⟨_,W,h1,h2⟩
   ·exact .inl ⟨c',by dsimp only;rw[h1,bQ];rfl,h2.trans (Nat.le_succ j)⟩
   ·refine .inr ⟨by simp,(((p+1+i:Nat):Int),blkI b i)::W,fun x hx=>?_,by dsimp only;rw[h2,bQ];rfl⟩
    rcases aQ.1 hx with rfl|hx
    ·exact cE
    ·exact bT _ (h1 x hx)
structure Zer (bs0:List (List Int)) (p n:Nat) (bs:List (List Int)):Prop where
 blk:mQ bs
 len:bs.length=bs0.length
 oth:∀j,¬(p≤j/\j<p+n)->bs.getD j []=bs0.getD j []
 zer:(bs.getD p []).getD 255 0=0
def InP (p n:Nat) (x:Wr):Prop:=∃q:Nat,x.1=(q:Int)/\p≤q/\q<p+n/\x.2.length=256/\B8 x.2/\(q=p->x.2.getD 255 0=0)
theorem Zer.lay {bs0:List (List Int)} {p n:Nat} {bs:List (List Int)} (z:Zer bs0 p n bs) (hn:p+n≤bs0.length) {x:Wr} (h:InP p n x) {k:Nat} (hk:k≤256):Zer bs0 p n (layB bs x k):=by
 obtain⟨q,h1,h2,h3,h4,h5,h6⟩:=h
 have hl:=z.len
 have e:layB bs x k=bs.set q (x.2.take k++(bs.getD q []).drop k):=by rw[layB,h1];rfl
 refine⟨layB_ok z.blk (by omega) (by omega) h4 h5 hk,by rw[layB_len];exact hl,fun j hj=>?_,?_⟩
 ·rw[e,set_getD_ne (by rintro rfl;exact hj ⟨h2,h3⟩)];exact z.oth j hj
 ·rw[e]
  by_cases hq:q=p
  ·subst hq
   rw[set_getD (by omega)]
   exact(torn_zero h4 (z.blk _ (aL (getD_blk (by omega)))).1 (h6 rfl) z.zer hk).1
  ·rw[set_getD_ne hq];exact z.zer
theorem crash_keep {bs:List (List Int)} {ws:List Wr} {c:Option Nat} (Q:List (List Int)->Prop) (h0:Q bs) (h1:∀bs x k,x∈ws->k≤256->Q bs->Q (layB bs x k)) (picks:List Int):
 ∃bs',(⟨bs,ws,[],true,c⟩:Dsk).crash picks=idle bs' none/\Q bs':=by
 refine⟨(ws.zip picks).foldl (fun bs x=>layB bs x.1 (clampP x.2).toNat) bs,rfl,?_⟩
 have key:∀(l:List (Wr×Int)) (bs:List (List Int)),(∀x∈l,x.1∈ws)->Q bs->Q (l.foldl (fun bs x=>layB bs x.1 (clampP x.2).toNat) bs):=by
  intro l
  induction l with
  |nil=>intro bs _ h;exact h
  |cons x l ih=>
   intro bs hx h
   refine ih _ (fun y hy=>hx y (bT _ hy)) (h1 _ _ _ (hx x cE) ?_ h)
   have:=clampP_le x.2;omega
 exact key _ _ (fun x hx=>zip_mem hx) h0
theorem layAll_keep {ws:List Wr} (Q:List (List Int)->Prop) (h1:∀bs x,x∈ws->Q bs->Q (layB bs x 256)):∀{bs},Q bs->Q (layAll bs ws):=by
 unfold layAll
 induction ws with
 |nil=>intro bs h;exact h
 |cons x l ih=>intro bs h;exact ih (fun bs y hy=>h1 bs y (bT _ hy)) (h1 bs x cE h)
theorem layAll_txt {b:List Int} (hb:B8 b) {p:Nat}:∀(k i:Nat) (bs:List (List Int)),mQ bs->p+1+i+k≤bs.length->
 ∀j,(layAll bs (txtW b p k i)).getD j []=if p+1+i≤j/\j<p+1+i+k then blkI b (j-(p+1)) else bs.getD j []
 |0,i,bs,_,_,j=>by rw[if_neg (by omega)];rfl
 |k+1,i,bs,h1,h2,j=>by
  have e:layAll bs (txtW b p (k+1) i)=layAll (bs.set (p+1+i) (blkI b i)) (txtW b p k (i+1)):=by
   show layAll (layB bs (((p+1+i:Nat):Int),blkI b i) 256) _=_
   rw[layB_all h1 (by omega) (blkI_len b i)]
  rw[e,layAll_txt hb k (i+1) _ (h1.set (blkI_len b i) (blkI_B8 hb i)) (by rw[eV];omega) j]
  by_cases c:p+1+i=j
  ·subst c
   rw[if_neg (by omega),if_pos (by omega),set_getD (by omega)]
   congr 1;omega
  ·by_cases d:p+1+(i+1)≤j/\j<p+1+(i+1)+k
   ·rw[if_pos d,if_pos (by omega)]
   ·rw[if_neg d,if_neg (by omega),set_getD_ne c]
end Go.Ideal.Seat
namespace Go.Ideal.Seat
open Go.Ideal.Plain
def plc (fr n g:Nat):Nat:=fr+g%2*n
theorem plc_two (fr n g:Nat):plc fr n (g+2)=plc fr n g:=by unfold plc;rw[Nat.add_mod_right]
theorem plc_cases (fr n g:Nat):(plc fr n g=fr/\plc fr n (g+1)=fr+n)\/(plc fr n g=fr+n/\plc fr n (g+1)=fr):=by
 unfold plc
 rcases eN g with h|h
 ·have:(g+1)%2=1:=by omega
  rw[h,this];simp
 ·have:(g+1)%2=0:=by omega
  rw[h,this];simp
def GoodT (n g:Nat) (t:List Int):Prop:=B8 t/\t.length≤256*(n-1)/\recErr (g:Int) (t.length:Int) (sum4 t)=0
structure qN (fr n g:Nat) (t:List Int) (bs:List (List Int)):Prop where
 blk:mQ bs
 fit:fr+2*n≤bs.length
 few:bs.length≤256
 two:2≤n
 hd:1≤g->bs.getD (plc fr n g) []=fullB (g:Int) (t.length:Int) (sum4 t)
 good:1≤g->GoodT n g t
 txt:1≤g->∀i,i<parts t->bs.getD (plc fr n g+1+i) []=blkI t i
 low:Low (g:Int) (bs.getD (plc fr n (g+1)) [])
 low0:g=0->Low 1 (bs.getD (plc fr n 0) [])
theorem parts_le {t:List Int} {n:Nat} (h:t.length≤256*(n-1)):parts t≤n-1:=by unfold parts;omega
theorem qN.ofZer {fr n g:Nat} {t:List Int} {bs bs':List (List Int)} (I:qN fr n g t bs) (z:Zer bs (plc fr n (g+1)) n bs'):qN fr n g t bs':=by
 have hl:=z.len
 have out:∀j,j<n->bs'.getD (plc fr n g+j) []=bs.getD (plc fr n g+j) []:=fun j hj=>z.oth _ (by rcases plc_cases fr n g with ⟨a,b⟩|⟨a,b⟩<;>omega)
 have two:=I.two
 have fit:=I.fit
 have hp:plc fr n (g+1)<bs'.length:=by rcases plc_cases fr n g with ⟨a,b⟩|⟨a,b⟩<;>omega
 refine⟨z.blk,by rw[hl];exact fit,by rw[hl];exact I.few,two,fun h=>?_,I.good,fun h i hi=>?_,?_,fun h=>?_⟩
 ·have:=out 0 (by omega);rw[iR]at this;rw[this];exact I.hd h
 ·have:=parts_le (I.good h).2.1
  rw[eW,out (1+i) (by omega),<-eW];exact I.txt h i hi
 ·exact low_zero (z.blk _ (aL (getD_blk hp))).1 z.zer
 ·subst h
  have:=out 0 (by omega);rw[iR]at this;rw[this];exact I.low0 rfl
def WLeft (P Q:List (List Int)->Prop) (c:Option Nat) (r:Dsk×Int):Prop:=
 (r.2=0/\∃bs' c',r.1=idle bs' c'/\wX c' c/\Q bs')\/(r.2=19/\c≠none/\r.1.down=true/\∀picks,∃bs',r.1.crash picks=idle bs' none/\(P bs'\/Q bs'))
theorem WLeft.up {P Q P' Q':List (List Int)->Prop} {c c':Option Nat} {r:Dsk×Int} (h:WLeft P Q c r) (hc:wX c c') (hp:∀b,P b->P' b) (hq:∀b,Q b->Q' b):WLeft P' Q' c' r:=by
 rcases h with ⟨a,bs,d,e,f,g⟩|⟨a,b,d,e⟩
 ·exact .inl ⟨a,bs,d,e,f.trans hc,hq _ g⟩
 ·refine .inr ⟨a,?_,d,fun p=>?_⟩
  ·rintro rfl
   cases c with
   |none=>exact b rfl
   |some k=>exact hc
  ·obtain⟨bs',h1,h2⟩:=e p
   exact⟨bs',h1,h2.imp (hp _) (hq _)⟩
theorem down_left {P Q:List (List Int)->Prop} {c:Option Nat} {w:Dsk} (hc:c≠none) (hd:w.down=true) (h:∀picks,∃bs',w.crash picks=idle bs' none/\(P bs'\/Q bs')):WLeft P Q c (w,19):=.inr ⟨rfl,hc,hd,h⟩
theorem stop_down (w:Dsk) (p:Int) (b:List Int) (hd:List Int):sTail (w,19) b p hd=(w,19):=by
 unfold sTail
 rw[if_pos (show (19:Int)≠0 by decide),laid_stop,laid_stop]
theorem tail_left {fr n g:Nat} {t b:List Int} {bs:List (List Int)} {c:Option Nat} (I:qN fr n g t bs) (hb:GoodT n (g+1) b) {bs1:List (List Int)} (z:Zer bs (plc fr n (g+1)) n bs1):
 WLeft (qN fr n g t) (qN fr n (g+1) b) c (sTail (idle bs1 c,0) b ((plc fr n (g+1):Nat):Int) (recB ((g+1:Nat):Int) (b.length:Int) (sum4 b))):=by
 obtain⟨b8,bl,be⟩:=hb
 have he:=recErr_zero.1 be
 have hB:=recB_B8 ((g+1:Nat):Int) (b.length:Int) he.2.2.2.2 (sum4_B8 b)
 have hL:=recB_len ((g+1:Nat):Int) (b.length:Int) he.2.2.2.2
 have hZ:(recB ((g+1:Nat):Int) (b.length:Int) (sum4 b)).getD 255 0=0:=recB_zero he.2.2.2.2
 have hF:markB (recB ((g+1:Nat):Int) (b.length:Int) (sum4 b)) true=fullB ((g+1:Nat):Int) (b.length:Int) (sum4 b):=rfl
 have hpl:=parts_le bl
 have two:=I.two
 have fit:=I.fit
 have hzl:=z.len
 have hpos:plc fr n (g+1)+n≤bs.length:=by rcases plc_cases fr n g with ⟨a,b⟩|⟨a,b⟩<;>omega
 have hdis:∀j,j<n->¬(plc fr n (g+1)≤plc fr n g+j/\plc fr n g+j<plc fr n (g+1)+n):=by
  intro j hj;rcases plc_cases fr n g with ⟨a,b⟩|⟨a,b⟩<;>omega
 have toP:∀{bs'},Zer bs (plc fr n (g+1)) n bs'->qN fr n g t bs':=fun z=>I.ofZer z
 generalize hp:plc fr n (g+1)=p at *
 generalize hhd:recB ((g+1:Nat):Int) (b.length:Int) (sum4 b)=hd at *
 have tin:∀x∈txtW b p (parts b) 0,InP p n x:=fun x hx=>by
  obtain⟨j,h1,h2,rfl⟩:=txtW_mem hx
  exact⟨p+1+j,rfl,by omega,by omega,blkI_len b j,blkI_B8 b8 j,fun h=>by omega⟩
 have hin:InP p n ((p:Int),hd):=⟨p,rfl,by omega,by omega,hL,hB,fun _=>hZ⟩
 have crashP:∀(W:List Wr) (c':Option Nat),(∀x∈W,InP p n x)->∀picks,∃bs',(⟨bs1,W,[],true,c'⟩:Dsk).crash picks=idle bs' none/\(qN fr n g t bs'\/qN fr n (g+1) b bs'):=fun W c' hW picks=>by
  obtain⟨bs',h1,h2⟩:=crash_keep (c:=c') (Zer bs p n) z (fun bs x k hx hk h=>h.lay hpos (hW x hx) hk) picks
  exact⟨bs',h1,.inl (toP h2)⟩
 have last:∀(bs2:List (List Int)) (c:Option Nat),Zer bs p n bs2->bs2.getD p []=hd->(∀i,i<parts b->bs2.getD (p+1+i) []=blkI b i)->WLeft (qN fr n g t) (qN fr n (g+1) b) c ((idle bs2 c).lay (p:Int) (markB hd true)):=by
  intro bs2 c z2 h1 h2
  have hl2:=z2.len
  have hLF:(markB hd true).length=256:=by rw[markB_len];exact hL
  have hBF:B8 (markB hd true):=markB_B8 hB true
  have toQ:qN fr n (g+1) b (bs2.set p (markB hd true)):=by
   refine⟨z2.blk.set hLF hBF,by rw[eV,hl2];exact fit,by rw[eV,hl2];exact I.few,two,fun _=>?_,fun _=>⟨b8,bl,be⟩,fun _ i hi=>?_,?_,fun h=>by omega⟩
   ·rw[hp,set_getD (by omega)];exact hF
   ·rw[hp,set_getD_ne (by omega)];exact h2 i hi
   ·rw[plc_two,set_getD_ne (by have:=hdis 0 (by omega);omega)]
    have:=z2.oth (plc fr n g) (hdis 0 (by omega))
    rw[this]
    by_cases hg:g=0
    ·subst hg;exact I.low0 rfl
    ·rw[I.hd (by omega)]
     exact low_made (I.good (by omega)).2.2 (sum4_B8 t) (by omega)
  rw[idle_lay z2.blk (by omega) hLF]
  match c with
  |none=>exact .inl ⟨rfl,_,none,rfl,trivial,toQ⟩
  |some 0=>
   refine down_left (by simp) rfl fun picks=>⟨bs2,crash_none picks,.inl (toP z2)⟩
  |some 1=>
   refine down_left (by simp) rfl fun picks=>?_
   obtain⟨b',k1,k2⟩:=crash_lay (b:=markB hd true) (c:=some 0) (g:=0) (show p<bs2.length by omega) h1 (fun b'=>b'=hd\/b'=markB hd true) (.inl rfl) (fun k hk=>take_drop_mark hL hk) picks
   rcases k2 with rfl|rfl
   ·refine⟨_,k1,.inl (toP ?_)⟩
    rw[<-h1,set_same (by omega)];exact z2
   ·exact⟨_,k1,.inr toQ⟩
  |some (k+2)=>exact .inl ⟨rfl,_,some k,rfl,(show k≤k+2 by omega),toQ⟩
 unfold sTail
 rw[if_neg (fun h=>h rfl)]
 have e1:(idle bs1 c)=(⟨bs1,[],[],false,c⟩:Dsk):=rfl
 dsimp only
 rw[e1]
 rcases putN_at (b:=b) (p:=p) (bs:=bs1) (parts b) 0 [] c (by omega)with ⟨c',h1,h2⟩|⟨h0,W,h1,h2⟩
 ·rw[h1,bZ]
  have hwl:∀{bs':List (List Int)},Zer bs p n bs'->Zer bs p n (layAll bs' (txtW b p (parts b) 0)):=fun z=>layAll_keep (Zer bs p n) (fun bs x hx h=>h.lay hpos (tin x hx) (aK _)) z
  have z1:=hwl z
  have el:layAll bs1 (txtW b p (parts b) 0++[((p:Int),hd)])=(layAll bs1 (txtW b p (parts b) 0)).set p hd:=by
   unfold layAll
   rw[Nn]
   exact layB_all z1.blk (by have:=z1.len;show p<(layAll bs1 _).length;omega) hL
  have z2:Zer bs p n (layAll bs1 (txtW b p (parts b) 0++[((p:Int),hd)])):=layAll_keep (Zer bs p n) (fun bs x hx h=>h.lay hpos (by
   rcases aE.1 hx with hx|hx
   ·exact tin x hx
   ·rw[eI]at hx;subst hx;exact hin) (aK _)) z
  have t1:(layAll bs1 (txtW b p (parts b) 0++[((p:Int),hd)])).getD p []=hd:=by rw[el,set_getD (by have:=z1.len;omega)]
  have t2:∀i,i<parts b->(layAll bs1 (txtW b p (parts b) 0++[((p:Int),hd)])).getD (p+1+i) []=blkI b i:=fun i hi=>by
   rw[el,set_getD_ne (by omega),layAll_txt b8 (parts b) 0 bs1 z.blk (by omega) (p+1+i),if_pos (by omega)]
   congr 1;omega
  have e2:laid (⟨bs1,txtW b p (parts b) 0,[],false,c'⟩,0) (p:Int) hd=(⟨bs1,txtW b p (parts b) 0,[],false,c'⟩:Dsk).lay (p:Int) hd:=by unfold laid;rw[if_neg (fun h=>h rfl)]
  have e3:∀w:Dsk,laid (w,0) (p:Int) (markB hd true)=w.lay (p:Int) (markB hd true):=fun w=>by unfold laid;rw[if_neg (fun h=>h rfl)]
  rw[e2]
  unfold Dsk.lay
  rw[put_at (by omega) hL]
  have all:∀x∈txtW b p (parts b) 0++[((p:Int),hd)],InP p n x:=fun x hx=>by
   rcases aE.1 hx with hx|hx
   ·exact tin x hx
   ·rw[eI]at hx;subst hx;exact hin
  have cn:∀k,c'=some k->c≠none:=fun k hk h=>by subst h;subst hk;exact h2
  match c' with
  |none=>
   simp only[ne_eq,not_true_eq_false,if_false,sync_at]
   rw[e3]
   exact(last _ none z2 t1 t2).up h2 (fun _ h=>h) (fun _ h=>h)
  |some 0=>
   simp only[ne_eq,show ¬((19:Int)=0) by decide,not_false_eq_true,if_true]
   rw[laid_stop]
   exact down_left (cn 0 rfl) rfl (crashP _ _ tin)
  |some 1=>
   simp only[ne_eq,not_true_eq_false,if_false,sync_at]
   rw[laid_stop]
   exact down_left (cn 1 rfl) rfl (crashP _ _ all)
  |some (k+2)=>
   simp only[ne_eq,not_true_eq_false,if_false,sync_at]
   rw[e3]
   exact(last _ (some k) z2 t1 t2).up (wX.trans (show wX (some k) (some (k+2)) from by show k≤k+2;omega) h2) (fun _ h=>h) (fun _ h=>h)
 ·rw[h2,bZ,laid_stop,laid_stop]
  exact down_left h0 rfl (crashP _ _ fun x hx=>tin x (h1 x hx))
theorem write_left {fr n g:Nat} {t b:List Int} {bs:List (List Int)} {c:Option Nat} (I:qN fr n g t bs) (hb:GoodT n (g+1) b):
 WLeft (qN fr n g t) (qN fr n (g+1) b) c (sWrite (idle bs c) fr n ((g+1:Nat):Int) b):=by
 have hb':=hb
 obtain⟨b8,bl,be⟩:=hb'
 have two:=I.two
 have fit:=I.fit
 have hpos:plc fr n (g+1)+n≤bs.length:=by rcases plc_cases fr n g with ⟨a,b⟩|⟨a,b⟩<;>omega
 have ep:(fr:Int)+((g+1:Nat):Int)%2*(n:Int)=((plc fr n (g+1):Nat):Int):=by
  unfold plc;push_cast;rfl
 have rd:=idle_rd (bs:=bs) (c:=c) (n:=plc fr n (g+1)) (by omega)
 unfold sWrite
 rw[if_neg (by omega),if_neg (by omega),if_neg (fun h=>h be),ep,rd,if_neg (fun h=>h rfl)]
 dsimp only
 have ob:=I.blk _ (aL (getD_blk (show plc fr n (g+1)<bs.length by omega)))
 have z0:∀o:List Int,o.length=256->B8 o->o.getD 255 0=0->Zer bs (plc fr n (g+1)) n (bs.set (plc fr n (g+1)) o):=fun o h1 h2 h3=>
  ⟨I.blk.set h1 h2,eV,fun j hj=>set_getD_ne (by rintro rfl;exact hj ⟨aK _,by omega⟩),by rw[set_getD (by omega)];exact h3⟩
 unfold unmark
 by_cases m:(bs.getD (plc fr n (g+1)) []).getD 255 0=0
 ·rw[if_neg (fun h=>h m)]
  refine tail_left I hb ?_
  have:=z0 _ ob.1 ob.2 m
  rwa [set_same (by omega)]at this
 ·rw[if_pos m]
  have hLu:(markB (bs.getD (plc fr n (g+1)) []) false).length=256:=by rw[markB_len];exact ob.1
  have zu:=z0 _ hLu (markB_B8 ob.2 false) (mark_zero ob.1)
  rw[idle_lay I.blk (by omega) hLu]
  match c with
  |none=>exact tail_left I hb zu
  |some 0=>
   dsimp only
   rw[stop_down]
   exact down_left (by simp) rfl fun picks=>⟨bs,crash_none picks,.inl I⟩
  |some 1=>
   dsimp only
   rw[stop_down]
   refine down_left (by simp) rfl fun picks=>?_
   obtain⟨b',h1,h2⟩:=crash_lay (b:=markB (bs.getD (plc fr n (g+1)) []) false) (c:=some 0) (g:=0) (show plc fr n (g+1)<bs.length by omega) rfl (fun b'=>b'=bs.getD (plc fr n (g+1)) []\/b'=markB (bs.getD (plc fr n (g+1)) []) false) (.inl rfl) (fun k hk=>take_drop_mark ob.1 hk) picks
   refine⟨_,h1,.inl ?_⟩
   rcases h2 with rfl|rfl
   ·rw[set_same (by omega)];exact I
   ·exact I.ofZer zu
  |some (k+2)=>exact(tail_left (c:=some k) I hb zu).up (show k≤k+2 by omega) (fun _ h=>h) (fun _ h=>h)
end Go.Ideal.Seat
namespace Go.Ideal.Seat
open Go.Ideal.Plain
theorem all_text {t:List Int} {w:Dsk} {p:Int}:∀k,k≤parts t->(∀i:Nat,i<k->(w.rd (p+1+i)).1=blkI t i)->(allB w p k).length=256*k/\(allB w p k).take t.length=t.take (256*k)
 |0,_,_=>⟨rfl,by simp[allB]⟩
 |k+1,hk,h=>by
  obtain⟨i1,i2⟩:=all_text k (by omega) (fun i hi=>h i (by omega))
  have hlt:256*k<t.length:=parts_lt.1 (by omega)
  have hb:=h k (by omega)
  have i3:allB w p k=t.take (256*k):=by rw[<-i2,bU (by omega)]
  have hp:(partI t k).length=min 256 (t.length-256*k):=by unfold partI;rw[bP,bW]
  refine⟨by rw[allB,aV,i1,hb,blkI_len];omega,?_⟩
  rw[allB,hb,i3,List.take_append,bP,iK (by omega),bU (by rw[bP];omega)]
  have e:(blkI t k).take (t.length-256*k)=partI t k:=by
   unfold blkI
   by_cases c:t.length-256*k≤256
   ·rw[dG (by omega),bU (by omega)]
   ·rw[show 256-(partI t k).length=0 by omega]
    simp only[Hi,bA]
    rw[bU (by omega)]
  rw[e,show 256*(k+1)=256*k+256 by omega,wJ]
  rfl
theorem low_head {bs:List (List Int)} {c:Option Nat} {fr n q:Nat} {g pl:Int} (h:q<bs.length) (e:(fr:Int)+pl*(n:Int)=((q:Nat):Int)) (l:Low g (bs.getD q [])):
 (sHead (idle bs c) fr n pl).2.2=0/\((sHead (idle bs c) fr n pl).2.1=true->(sHead (idle bs c) fr n pl).1.1<g):=by
 unfold sHead
 rw[e,idle_rd h,if_neg (fun h=>h rfl),if_neg l.1]
 split
 ·exact⟨rfl,fun h=>by cases h⟩
 ·rename_i hc
  refine⟨rfl,fun _=>?_⟩
  rcases l.2 with l|l
  ·exact(hc (.inl l)).elim
  ·exact l
theorem inv_read {fr n g:Nat} {t:List Int} {bs:List (List Int)} {c:Option Nat} (I:qN fr n g t bs) (hg:1≤g):sRead (idle bs c) fr n=((g:Int),t,0):=by
 have two:=I.two
 have fit:=I.fit
 obtain⟨t8,tl,te⟩:=I.good hg
 have hd:=I.hd hg
 have txt:=I.txt hg
 have low:=I.low
 have hpl:=parts_le tl
 have hpq:plc fr n g<bs.length/\plc fr n (g+1)<bs.length/\plc fr n g+n≤bs.length:=by rcases plc_cases fr n g with ⟨a,b⟩|⟨a,b⟩<;>omega
 have ep:∀k:Nat,(fr:Int)+((k%2:Nat):Int)*(n:Int)=((plc fr n k:Nat):Int):=fun k=>by unfold plc;push_cast;rfl
 have hm:Int.tmod (g:Int) 2=((g%2:Nat):Int):=by rw[tm2 (by omega)];omega
 have hr:recR (bs.getD (plc fr n g) [])=(((g:Int),(t.length:Int),sum4 t),0):=by rw[hd];exact recR_made te (sum4_B8 t)
 have good:sHead (idle bs c) fr n ((g%2:Nat):Int)=(((g:Int),(t.length:Int),sum4 t),true,0):=by
  unfold sHead
  rw[ep g,idle_rd hpq.1,if_neg (fun h=>h rfl),hr,if_neg (show ¬(0:Int)=21 by decide),if_neg]
  rintro (h|h|h)
  ·exact h rfl
  ·exact h hm
  ·have:((t.length:Nat):Int)>((n:Int)-1)*256:=h
   omega
 have text:sText (idle bs c) fr n ((g:Int),(t.length:Int),sum4 t)=(t,0):=by
  unfold sText
  dsimp only
  rw[hm,ep g,show ((n:Int)).toNat-1=n-1 by omega,aP]
  have rds:Reads (idle bs c) ((plc fr n g:Nat):Int) (n-1):=fun i hi=>by
   rw[show ((plc fr n g:Nat):Int)+1+(i:Int)=((plc fr n g+1+i:Nat):Int) by omega,idle_rd (by omega)]
  have a1:=all_text (t:=t) (w:=idle bs c) (p:=((plc fr n g:Nat):Int)) (parts t) (aK _) (fun i hi=>by
   rw[show ((plc fr n g:Nat):Int)+1+(i:Int)=((plc fr n g+1+i:Nat):Int) by omega,idle_rd (by omega)]
   exact txt i hi)
  have hge:t.length≤256*parts t:=by unfold parts;omega
  have ok:(idle bs c).Ok 1\/True:=.inr trivial
  have a2:(allB (idle bs c) ((plc fr n g:Nat):Int) (n-1)).take t.length=(allB (idle bs c) ((plc fr n g:Nat):Int) (parts t)).take t.length:=by
   have key:∀j,parts t+j≤n-1->(allB (idle bs c) ((plc fr n g:Nat):Int) (parts t+j)).take t.length=(allB (idle bs c) ((plc fr n g:Nat):Int) (parts t)).take t.length/\t.length≤(allB (idle bs c) ((plc fr n g:Nat):Int) (parts t+j)).length:=by
    intro j
    induction j with
    |zero=>intro _;exact⟨rfl,by rw[iR,a1.1];exact hge⟩
    |succ j ih=>
     intro hj
     obtain⟨b1,b2⟩:=ih (by omega)
     rw[<-eW,allB]
     exact⟨by rw[dG b2];exact b1,by rw[aV];omega⟩
   have:=(key (n-1-parts t) (by omega)).1
   rwa [show parts t+(n-1-parts t)=n-1 by omega]at this
  rw[a2,a1.2,bU hge,if_pos rfl]
 have lh:=low_head (c:=c) (g:=(g:Int)) (pl:=(((g+1)%2:Nat):Int)) (fr:=fr) (n:=n) hpq.2.1 (ep (g+1)) low
 unfold sRead
 rcases eN g with h|h
 ·have h':(g+1)%2=1:=by omega
  rw[h]at good
  rw[h']at lh
  rw[show ((0:Nat):Int)=0 from rfl]at good
  rw[show ((1:Nat):Int)=1 from rfl]at lh
  rw[good,if_neg (fun h=>h rfl),if_neg (fun h=>h lh.1),if_neg (by rintro⟨h,_⟩;cases h)]
  rw[if_neg (show ¬(true=false\/(sHead (idle bs c) fr n 1).2.1=true/\(sHead (idle bs c) fr n 1).1.1>(g:Int)) from by
   rintro (h|⟨h,h2⟩)
   ·cases h
   ·have:=lh.2 h;omega)]
  dsimp only
  rw[text,if_neg (fun h=>h rfl)]
 ·have h':(g+1)%2=0:=by omega
  rw[h]at good
  rw[h']at lh
  rw[show ((1:Nat):Int)=1 from rfl]at good
  rw[show ((0:Nat):Int)=0 from rfl]at lh
  rw[good,if_neg (fun h=>h lh.1),if_neg (fun h=>h rfl),if_neg (by rintro⟨_,h⟩;cases h)]
  have:(sHead (idle bs c) fr n 0).2.1=false\/((true=true)/\(g:Int)>(sHead (idle bs c) fr n 0).1.1):=by
   cases hh:(sHead (idle bs c) fr n 0).2.1 with
   |false=>exact .inl rfl
   |true=>exact .inr ⟨rfl,lh.2 hh⟩
  rw[if_pos this]
  dsimp only
  rw[text,if_neg (fun h=>h rfl)]
theorem sNew_eq (w:Dsk) (fr n:Int) (h:w.blocks.length≤256):O_slots_New (w.toD,fr,n)=some (w.toD,if fr<0\/n<2\/n>(w.blocks.length:Int)/2\/fr>w.blocks.length-2*n then (none,1) else (some ((),fr,n),0)):=by
 unfold O_slots_New O_disk_Disk_Blocks
 have hb:w.toD.1.length=w.blocks.length:=rfl
 simp only[aB,hb]
 by_cases a:fr<0
 ·simp only[a,decide_true,show (true==false)=false from rfl,cond_false,aB,cond_true,true_or,if_true]
 by_cases b:n<2
 ·simp only[a,b,decide_true,decide_false,beq_self_eq_true,show (true==false)=false from rfl,cond_false,aB,cond_true,true_or,or_true,if_true]
 have hd:Int.tdiv (w.blocks.length:Int) 2=(w.blocks.length:Int)/2:=gH (by omega)
 have hw0:IntKind.wrap .i64 ((w.blocks.length:Int)/2)=(w.blocks.length:Int)/2:=w64 (by omega) (by omega)
 simp only[hd,hw0]
 by_cases c:n>(w.blocks.length:Int)/2
 ·simp only[a,b,c,decide_true,decide_false,beq_self_eq_true,show (true==false)=false from rfl,cond_false,aB,cond_true,true_or,or_true,if_true]
 have hw1:IntKind.wrap .i64 (2*n)=2*n:=w64 (by omega) (by omega)
 have hw:IntKind.wrap .i64 ((w.blocks.length:Int)-2*n)=(w.blocks.length:Int)-2*n:=w64 (by omega) (by omega)
 simp only[a,b,c,hw,hw1,decide_false,beq_self_eq_true,cond_true,aB,false_or]
 by_cases d:fr>(w.blocks.length:Int)-2*n
 ·simp only[d,decide_true,cond_true,if_true]
 ·simp only[d,decide_false,cond_false,if_false]
theorem zB_low (g:Int):Low g zB:=low_zero zB_ok.1 (by rw[aX,zB,kD];rfl)
theorem inv_new {fr n m:Nat} (hn:2≤n) (h:fr+2*n≤m) (hm:m≤256):qN fr n 0 [] (List.replicate m zB):=by
 have hp:plc fr n 0=fr:=by unfold plc;simp
 have hq:plc fr n 1=fr+n:=by unfold plc;simp
 refine⟨rep_blk m,by rw[eA];exact h,by rw[eA];exact hm,hn,fun h=>by omega,fun h=>by omega,fun h=>by omega,?_,fun _=>?_⟩
 ·show Low _ ((List.replicate m zB).getD (plc fr n 1) [])
  rw[hq,rep_get (by omega)];exact zB_low _
 ·rw[hp,rep_get (by omega)];exact zB_low _
theorem good_small {n g:Nat} {t:List Int} (h8:B8 t) (hl:t.length≤256*(n-1)) (hn:n≤128) (hg:g<72057594037927936):GoodT n g t:=
 ⟨h8,hl,recErr_zero.2 ⟨by omega,by omega,by omega,by omega,by rw[sum4_len];omega⟩⟩
theorem awake24:F_batonlaw24_awake ()=some true:=by
 have h8:B8 [97]:=fun x hx=>by rw[eI]at hx;omega
 have I:=inv_new (fr:=0) (n:=2) (m:=4) (by omega) (by omega) (by omega)
 have W:=write_left (c:=none) I (good_small (g:=0+1) (n:=2) h8 (by simp) (by omega) (by omega))
 rcases W with ⟨h1,bs',c',h2,h3,h4⟩|⟨_,h,_⟩
 rotate_left
 ·exact(h rfl).elim
 have hc:c'=none:=by cases c' with|none=>rfl|some k=>exact h3.elim
 subst hc
 have R:=inv_read (c:=none) h4 (by omega)
 have n4:=newD_eq 4 (by omega) (by omega)
 have l4:(newD 4).blocks.length=4:=eA
 have j4:=sNew_eq (newD 4) 0 2 (by rw[l4];omega)
 rw[l4,if_neg (by omega)]at j4
 rw[show ((4:Nat):Int)=4 from rfl]at n4
 have e1:=sWrite_eq (w:=newD 4) (newD_ok 4 (by omega)) (by omega) (fr:=0) (n:=2) (g:=1) h8 (by omega) (by omega) (by omega) (by omega)
 have hok:(idle bs' none).Ok 1:=ok_of h4.blk h4.few (fun x hx=>by cases hx) (by simp) (fun k h=>by cases h)
 have e2:=sRead_eq hok (by omega) (fr:=0) (n:=2) (by omega) (by omega) (by have:=h4.fit;show (0:Int)+2*2≤(bs'.length:Int);omega)
 have h1':(sWrite (newD 4) 0 2 1 [97]).2=0:=h1
 have h2':(sWrite (newD 4) 0 2 1 [97]).1=idle bs' none:=h2
 have R':sRead (idle bs' none) 0 2=(1,[97],0):=R
 unfold F_batonlaw24_awake
 rw[n4]
 simp only[aB,bne_self_eq_false,beq_self_eq_true,cond_true,Jg,cond_false,j4]
 simp only[gS,show decide (0<1)=true from rfl,cond_true,e1,aB,h1',h2',bne_self_eq_false,cond_false,e2,R',beq_self_eq_true]
 rfl
end Go.Ideal.Seat
namespace Go.Ideal.Seat
open Go.Ideal.Plain
theorem sRead_len {w:Dsk} {m:Nat} (ok:w.Ok m) {fr n:Int} (h1:0≤fr) (h3:2≤n) (hb:fr+2*n≤w.blocks.length):(sRead w fr n).2.1.length<2^60:=by
 have hfew:=ok.few
 have z:([]:List Int).length<2^60:=by decide
 unfold sRead
 split
 ·exact z
 ·split
  ·exact z
  ·split
   ·exact z
   ·rename_i h _ hz
    have g0:=fun h=>sHead_good ok (fr:=fr) (n:=n) (pl:=0) h
    have g1:=fun h=>sHead_good ok (fr:=fr) (n:=n) (pl:=1) h
    have tl:∀x:Rec,((x=(sHead w fr n 0).1/\(sHead w fr n 0).2.1=true)\/(x=(sHead w fr n 1).1/\(sHead w fr n 1).2.1=true))->(sText w fr n x).1.length<2^60:=by
     intro x hx
     have:Int.tmod x.1 2=0\/Int.tmod x.1 2=1:=by
      rcases hx with ⟨rfl,h⟩|⟨rfl,h⟩
      ·exact .inl (g0 h).2.2.1
      ·exact .inr (g1 h).2.2.1
     have hr:Reads w (fr+Int.tmod x.1 2*n) (n.toNat-1):=by
      rcases hx with ⟨_,h⟩|⟨_,h⟩
      ·refine reads_of (g0 h).1 ?_ ?_ h3<;>rcases this with h|h<;>rw[h]<;>omega
      ·refine reads_of (g1 h).1 ?_ ?_ h3<;>rcases this with h|h<;>rw[h]<;>omega
     unfold sText
     split
     ·have:=(allB_len ok hr).1
      show (List.take _ _).length<_
      rw[bP,this];omega
     ·exact z
    have hx:((if (sHead w fr n 0).2.1=false\/((sHead w fr n 1).2.1=true/\(sHead w fr n 1).1.1>(sHead w fr n 0).1.1) then (sHead w fr n 1).1 else (sHead w fr n 0).1)=(sHead w fr n 0).1/\(sHead w fr n 0).2.1=true)\/
     ((if (sHead w fr n 0).2.1=false\/((sHead w fr n 1).2.1=true/\(sHead w fr n 1).1.1>(sHead w fr n 0).1.1) then (sHead w fr n 1).1 else (sHead w fr n 0).1)=(sHead w fr n 1).1/\(sHead w fr n 1).2.1=true):=by
     by_cases hc:(sHead w fr n 0).2.1=false\/((sHead w fr n 1).2.1=true/\(sHead w fr n 1).1.1>(sHead w fr n 0).1.1)
     ·rw[if_pos hc]
      refine .inr ⟨rfl,?_⟩
      rcases hc with hc|hc
      ·cases hh:(sHead w fr n 1).2.1 with
       |true=>rfl
       |false=>exact(hz ⟨hc,hh⟩).elim
      ·exact hc.1
     ·rw[if_neg hc]
      refine .inl ⟨rfl,?_⟩
      cases hh:(sHead w fr n 0).2.1 with
      |true=>rfl
      |false=>exact(hc (.inl hh)).elim
    have fin:∀x:Rec,(sText w fr n x).1.length<2^60->(if (sText w fr n x).2≠0 then ((0:Int),([]:List Int),(sText w fr n x).2) else (x.1,(sText w fr n x).1,0)).2.1.length<2^60:=by
     intro x hx
     split
     ·exact z
     ·exact hx
    exact fin _ (tl _ hx)
theorem put_len (w:Dsk) (n:Int) (b:List Int):(w.put n b).1.blocks.length=w.blocks.length:=by
 have:=(step_same w).1
 unfold Dsk.put
 split
 ·rfl
 ·split
  ·rfl
  ·split
   ·rfl
   ·split
    ·show w.step.1.blocks.length=_;rw[this]
    ·rw[this]
theorem foldB_len (f:List (List Int)->Wr->List (List Int)) (hf:∀bs x,(f bs x).length=bs.length):∀(ws:List Wr) (bs:List (List Int)),(ws.foldl f bs).length=bs.length
 |[],_=>rfl
 |x::r,bs=>(foldB_len f hf r (f bs x)).trans (hf bs x)
theorem sync_len (w:Dsk):w.sync.1.blocks.length=w.blocks.length:=by
 have:=(step_same w).1
 unfold Dsk.sync
 split
 ·rfl
 ·split
  ·exact foldB_len _ (fun bs x=>layB_len bs x 256) _ _
  ·rw[this]
theorem lay_len (w:Dsk) (n:Int) (b:List Int):(w.lay n b).1.blocks.length=w.blocks.length:=by
 unfold Dsk.lay
 split
 ·exact put_len w n b
 ·rw[sync_len,put_len]
theorem putN_len (b:List Int) (p:Int):∀(k:Nat) (w:Dsk) (i:Nat),(putN b p k w i).1.blocks.length=w.blocks.length
 |0,_,_=>rfl
 |k+1,w,i=>by
  unfold putN
  split
  ·exact put_len w _ _
  ·rw[putN_len b p k,put_len]
theorem laid_len (s:Dsk×Int) (n:Int) (b:List Int):(laid s n b).1.blocks.length=s.1.blocks.length:=by
 unfold laid
 split
 ·rfl
 ·exact lay_len _ _ _
theorem sWrite_len (w:Dsk) (fr n g:Int) (b:List Int):(sWrite w fr n g b).1.blocks.length=w.blocks.length:=by
 unfold sWrite
 split
 ·rfl
 ·split
  ·rfl
  ·split
   ·rfl
   ·split
    ·rfl
    ·unfold sTail
     rw[laid_len,laid_len]
     have:∀p was,(unmark w p was).1.blocks.length=w.blocks.length:=fun p was=>by
      unfold unmark
      split
      ·exact lay_len _ _ _
      ·rfl
     split
     ·exact this _ _
     ·rw[putN_len];exact this _ _
theorem doOp_len (w:Dsk) (o:DOp):(doOp w o).blocks.length=w.blocks.length:=by
 unfold doOp
 split
 ·exact put_len _ _ _
 ·split
  ·exact sync_len _
  ·split
   ·rfl
   ·unfold Dsk.crash
    dsimp only
    have:∀(l:List (Wr×Int)) (bs:List (List Int)),(l.foldl (fun bs x=>layB bs x.1 (clampP x.2).toNat) bs).length=bs.length:=by
     intro l
     induction l with
     |nil=>intro bs;rfl
     |cons x r ih=>intro bs;rw[kZ,ih,layB_len]
    exact this _ _
abbrev JOp':=Int×Int×List Int×DOp
theorem plays_law24 (x:Int×Int×List JOp') (h:∀o∈x.2.2,B8 o.2.2.1/\o.2.2.2.2.1<9223372036854775808/\(0≤o.2.2.2.2.2.1/\o.2.2.2.2.2.1<256)/\(0≤o.2.2.2.2.2.2.1/\o.2.2.2.2.2.2.1<256)) (hx1:-9223372036854775808≤x.1/\x.1<9223372036854775808) (hx2:-9223372036854775808≤x.2.1/\x.2.1<9223372036854775808):F_batonlaw24_SlotsPlays x=some true:=by
 obtain⟨fr,bl,l⟩:=x
 dsimp only at h hx1 hx2
 unfold F_batonlaw24_SlotsPlays
 simp only[awake24,aB,cP,cond_false]
 by_cases hl:(((l.length:Nat):Int)>20)
 ·simp only[hl,decide_true,cond_true]
 simp only[hl,decide_false,cond_false]
 have n4:=newD_eq 6 (by omega) (by omega)
 have r4:=refNew 6 (by omega)
 have l4:(newD 6).blocks.length=6:=eA
 have j4:=sNew_eq (newD 6) fr bl (by rw[l4];omega)
 rw[l4]at j4
 rw[show ((6:Nat):Int)=6 from rfl]at n4 j4 r4
 simp only[n4,aB,bne_self_eq_false,beq_self_eq_true,cond_true,Jg,cond_false,j4,r4]
 have q:∀a b c d:Prop,∀[Decidable a] [Decidable b] [Decidable c] [Decidable d],(bif (decide a==false) then (bif (decide b==false) then (bif (decide c==false) then some (decide d) else some true) else some true) else some true)=some (decide (a\/b\/c\/d)):=by
  intro a b c d _ _ _ _
  by_cases a<;>by_cases b<;>by_cases c<;>simp[*]
 simp only[q,aB]
 by_cases hb:fr<0\/bl<2\/bl>6/2\/fr>6-2*bl
 ·have hb2:fr<0\/bl<2\/bl>3\/fr>IntKind.wrap .i64 (6-IntKind.wrap .i64 (2*bl)):=by
   rcases hb with a|a|a|a
   ·exact .inl a
   ·exact .inr (.inl a)
   ·exact .inr (.inr (.inl (by omega)))
   ·by_cases c1:bl<2
    ·exact .inr (.inl c1)
    ·by_cases c2:bl>3
     ·exact .inr (.inr (.inl c2))
     ·exact .inr (.inr (.inr (by rw[w64 (x:=2*bl) (by omega) (by omega),w64 (by omega) (by omega)];exact a)))
  rw[if_pos hb]
  simp only[hb2,decide_true,cond_true]
  rfl
 ·have hb1:¬(fr<0\/bl<2\/bl>3\/fr>6-2*bl):=by omega
  have hb2:¬(fr<0\/bl<2\/bl>3\/fr>IntKind.wrap .i64 (6-IntKind.wrap .i64 (2*bl))):=by
   rw[w64 (x:=2*bl) (by omega) (by omega),w64 (by omega) (by omega)];exact hb1
  have wr:(IntKind.i64.wrap (IntKind.i64.wrap (bl-1)*256) != IntKind.i64.wrap (256*IntKind.i64.wrap (bl-1)))=false:=by
   rw[Int.mul_comm];simp
  rw[if_neg hb]
  simp only[hb2,decide_false,cond_false,bne_self_eq_false,beq_self_eq_true,cond_true,Jg,aB,O_slots_Slots_Room,wr]
  refine bind_ex' (Q:=fun w=>w = .inl true\/w = .inr ()) ?_ ?_
  ·refine invLoop (l:=l) (fun(w:Dsk) i=>(w.blocks,w.waits,w.bad,w.down,Dsk.left w.cut,some ((),fr,bl),w.blocks,w.waits,w.bad,w.down,w.cut.isSome,((w.cut.getD 0:Nat):Int),i)) (fun i w=>w.Ok (6*i)/\w.blocks.length=6) _ (a:=newD 6) ⟨newD_ok 6 (by omega),l4⟩ (fun w i e he hi ok=>?_) (fun w hv=>?_)
   ·obtain⟨ok,len6⟩:=ok
    have c:(i:Int)<(l.length:Int):=by omega
    obtain⟨hd,hn,hf,hla⟩:=h e (aL he)
    obtain⟨k,g,d,o⟩:=e
    dsimp only at hd hn hf hla
    by_cases hbig:d.length>600\/o.2.2.2.2.2.length>40
    ·refine .inr ⟨.inl true,?_,.inl rfl⟩
     have v:(bif ((decide (((d.length:Nat):Int)>600))==false) then (some (decide (((o.2.2.2.2.2.length:Nat):Int)>40))) else (some true))=some true:=by
      rcases hbig with a|a
      ·have:(((d.length:Nat):Int)>600):=by omega
       simp[this]
      ·have:(((o.2.2.2.2.2.length:Nat):Int)>40):=by omega
       simp[this]
     simp only[c,decide_true,cond_true,aY,aP,he,aB,v]
    ·have v:(bif ((decide (((d.length:Nat):Int)>600))==false) then (some (decide (((o.2.2.2.2.2.length:Nat):Int)>40))) else (some true))=some false:=by
      have a:¬(((d.length:Nat):Int)>600):=by omega
      have b:¬(((o.2.2.2.2.2.length:Nat):Int)>40):=by omega
      simp only[a,b,decide_false,beq_self_eq_true,cond_true]
     have bD:∀w:Dsk,(w.blocks,w.waits,w.bad,w.down,Dsk.left w.cut)=w.toD:=fun _=>rfl
     have bR:∀w:Dsk,(w.blocks,w.waits,w.bad,w.down,w.cut.isSome,((w.cut.getD 0:Nat):Int))=w.toR:=fun _=>rfl
     have fin:∀w':Dsk,w'.Ok (6*(i+1))->((O_batonlaw21_Shows (w'.toD,w'.toR)).bind fun r320=>some (r320.1,(!r320.2)))=some (w'.toD,false):=fun w' ok'=>by
      rw[shows_eq ok' (by omega)];rfl
     by_cases k0:k=0
     ·subst k0
      have hpp:parts d≤3:=by unfold parts;omega
      have ok':(sWrite w fr bl g d).1.Ok (6*(i+1)):=Ok.up (sWrite_ok ok fr bl g hd) (by omega)
      have ja:=sWrite_eq ok (by omega) (fr:=fr) (n:=bl) (g:=g) hd (by omega) (by omega) (by omega) (by omega)
      have ra:=refSWrite ok (by omega) (fr:=fr) (n:=bl) (g:=g) hd (by omega) (by omega) (by omega) (by omega)
      refine .inl ⟨(sWrite w fr bl g d).1,?_,ok',by rw[sWrite_len];exact len6⟩
      simp only[c,decide_true,cond_true,aY,aP,he,aB,v,cond_false,beq_self_eq_true,bD,bR,ja,ra,cP]
      have f:=fin _ ok'
      simp only[Dsk.toD,Dsk.toR]at f
      simp only[Dsk.toD,Dsk.toR,f,aB,cond_false,iE (show i<2^62 by omega)]
     ·have k0':(k==0)=false:=by simpa using k0
      by_cases k1:k=1
      ·subst k1
       have js:=sRead_eq ok (by omega) (fr:=fr) (n:=bl) (by omega) (by omega) (by rw[len6];omega)
       have rs:=refSRead ok (by omega) (fr:=fr) (n:=bl) (by omega) (by omega) (by rw[len6];omega)
       have hsl:=sRead_len ok (fr:=fr) (n:=bl) (by omega) (by omega) (by rw[len6];omega)
       have ok':w.Ok (6*(i+1)):=Ok.up ok (by omega)
       refine .inl ⟨w,?_,ok',len6⟩
       simp only[c,decide_true,cond_true,aY,aP,he,aB,v,cond_false,show ((1:Int)==0)=false from rfl,beq_self_eq_true,bD,bR,js,rs,bsame _ _ hsl,cP]
       have f:=fin _ ok'
       simp only[f,aB,cond_false,iE (show i<2^62 by omega)]
       rfl
      ·have k1':(k==1)=false:=by simpa using k1
       have ok':(doOp w o).Ok (6*(i+1)):=Ok.up (doOp_ok ok o hn hf hla) (by omega)
       have dd:=do_eq ok (by omega) o (by omega)
       refine .inl ⟨doOp w o,?_,ok',by rw[doOp_len];exact len6⟩
       simp only[c,decide_true,cond_true,aY,aP,he,aB,v,cond_false,k0',k1',bD,bR,dd,cP,beq_self_eq_true]
       have f:=fin _ ok'
       simp only[Dsk.toD,Dsk.toR]at f
       simp only[Dsk.toD,Dsk.toR,f,aB,cond_false,iE (show i<2^62 by omega)]
   ·refine⟨.inr (),?_,.inr rfl⟩
    have c:¬((l.length:Int)<(l.length:Int)):=by omega
    simp only[c,decide_false,cond_false]
  ·rintro w (rfl|rfl)<;>rfl
end Go.Ideal.Seat
