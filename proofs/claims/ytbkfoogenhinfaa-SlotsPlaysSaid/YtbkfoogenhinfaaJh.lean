/- The contract of slices.Concat of rows of bytes. -/
import Derived.Test.YtbkfoogenhinfaaJc
set_option linter.unusedVariables false
set_option linter.unusedSimpArgs false
set_option linter.unusedSectionVars false
namespace Go.Ideal
def vV (ti:Nat):mO:=⟨2,[.tmp 4],
 .seq (.reg [⟨0,none,(some 4),.mov (.c .nils)⟩] [0,1])
 (.seq (.seq (.reg [⟨0,none,(some 5),.mov (.t 1)⟩,
   ⟨1,none,(some 6),.bin .lss (.t 5) (.c (.int .i64 0))⟩] [0,1,6])
  (.cond (.t 6)
   (.reg [⟨0,none,(some 7),.mkI ti (.c (.str [99,97,110,110,111,116,32,98,101,32,110,101,103,97,116,105,118,101]))⟩,
     ⟨1,none,none,.bad⟩] [0,1])
   (.skip)))
 (.seq (.seq (.reg [⟨0,none,(some 8),.mov (.t 1)⟩,
   ⟨1,none,(some 9),.mov (.t 0)⟩,
   ⟨2,none,(some 10),.cap (.t 9)⟩,
   ⟨3,none,(some 11),.mov (.t 0)⟩,
   ⟨4,none,(some 12),.len false (.t 11)⟩,
   ⟨5,none,(some 13),.bin .sub (.t 10) (.t 12)⟩,
   ⟨6,none,(some 14),.bin .sub (.t 8) (.t 13)⟩,
   ⟨7,none,(some 1),.mov (.t 14)⟩] [0,1])
  (.seq (.reg [⟨0,none,(some 15),.mov (.t 1)⟩,
    ⟨1,none,(some 16),.bin .gtr (.t 15) (.c (.int .i64 0))⟩] [0,1,16])
  (.cond (.t 16)
   (.reg [⟨0,none,(some 17),.mov (.t 0)⟩,
     ⟨1,none,(some 18),.mov (.t 0)⟩,
     ⟨2,none,(some 19),.cap (.t 18)⟩,
     ⟨3,none,(some 20),.slL 1 (.t 17) none (some (.t 19)) none⟩,
     ⟨4,none,(some 21),.mov (.t 1)⟩,
     ⟨5,none,(some 22),.appz 1 1 [(.int .u8 0)] (.t 20) (.t 21)⟩,
     ⟨6,none,(some 23),.mov (.t 0)⟩,
     ⟨7,none,(some 24),.len false (.t 23)⟩,
     ⟨8,none,(some 25),.slL 1 (.t 22) none (some (.t 24)) none⟩,
     ⟨9,none,(some 0),.mov (.t 25)⟩] [0])
   (.skip))))
 (.seq (.reg [⟨0,none,(some 26),.mov (.t 0)⟩,
   ⟨1,none,(some 4),.mov (.t 26)⟩] [4])
 (.ret))))⟩
def nU (ti:Nat):dJ:=(.seq (.reg [⟨0,none,(some 12),.bin .lss (.t 11) (.t 10)⟩] [0,3,9,10,11,12])
     (.seq (.cond (.t 12)
       (.skip)
       (.exit 0))
     (.seq (.block 1 (.seq (.reg [⟨0,none,(some 13),.iadr 1 (.t 9) (.t 11)⟩,
           ⟨1,none,(some 14),.load none (.t 13)⟩,
           ⟨2,none,(some 5),.mov (.t 14)⟩] [0,3,5,9,10,11])
       (.seq (.reg [⟨0,none,(some 15),.mov (.t 3)⟩,
         ⟨1,none,(some 16),.mov (.t 5)⟩,
         ⟨2,none,(some 17),.len false (.t 16)⟩,
         ⟨3,none,(some 18),.bin .add (.t 15) (.t 17)⟩,
         ⟨4,none,(some 3),.mov (.t 18)⟩] [0,3,9,10,11])
       (.seq (.reg [⟨0,none,(some 19),.mov (.t 3)⟩,
         ⟨1,none,(some 20),.bin .lss (.t 19) (.c (.int .i64 0))⟩] [0,3,9,10,11,20])
       (.cond (.t 20)
        (.reg [⟨0,none,(some 21),.mkI ti (.c (.str [108,101,110,32,111,117,116,32,111,102,32,114,97,110,103,101]))⟩,
          ⟨1,none,none,.bad⟩] [0,3,9,10,11])
        (.skip))))))
     (.reg [⟨0,none,(some 22),.bin .add (.t 11) (.c (.int .i64 1))⟩,
       ⟨1,none,(some 11),.mov (.t 22)⟩] [0,3,9,10,11]))))
def nT:dJ:=(.seq (.reg [⟨0,none,(some 28),.bin .lss (.t 27) (.t 26)⟩] [6,25,26,27,28])
     (.seq (.cond (.t 28)
       (.skip)
       (.exit 2))
     (.seq (.block 3 (.seq (.reg [⟨0,none,(some 29),.iadr 1 (.t 25) (.t 27)⟩,
           ⟨1,none,(some 30),.load none (.t 29)⟩,
           ⟨2,none,(some 8),.mov (.t 30)⟩] [6,8,25,26,27])
       (.reg [⟨0,none,(some 31),.mov (.t 6)⟩,
         ⟨1,none,(some 32),.mov (.t 8)⟩,
         ⟨2,none,(some 33),.app 1 1 (.t 31) (.t 32)⟩,
         ⟨3,none,(some 6),.mov (.t 33)⟩] [6,25,26,27])))
     (.reg [⟨0,none,(some 34),.bin .add (.t 27) (.c (.int .i64 1))⟩,
       ⟨1,none,(some 27),.mov (.t 34)⟩] [6,25,26,27]))))
def Qx (ti g:Nat):mO:=⟨1,[.tmp 2],
 .seq (.reg [⟨0,none,(some 2),.mov (.c .nils)⟩] [0])
 (.seq (.reg [⟨0,none,(some 3),.mov (.c (.int .i64 0))⟩] [0,3])
 (.seq (.seq (.reg [⟨0,none,(some 9),.mov (.t 0)⟩,
   ⟨1,none,(some 10),.len false (.t 9)⟩,
   ⟨2,none,(some 11),.mov (.c (.int .i64 0))⟩] [0,3,9,10,11])
  (.block 0 (.loop (nU ti))))
 (.seq (.reg [⟨0,none,(some 23),.mov (.t 3)⟩,
   ⟨1,none,(some 24),.call g [(.c .nils),(.t 23)]⟩,
   ⟨2,none,(some 6),.mov (.t 24)⟩] [0,6])
 (.seq (.seq (.reg [⟨0,none,(some 25),.mov (.t 0)⟩,
   ⟨1,none,(some 26),.len false (.t 25)⟩,
   ⟨2,none,(some 27),.mov (.c (.int .i64 0))⟩] [6,25,26,27])
  (.block 2 (.loop nT)))
 (.seq (.reg [⟨0,none,(some 35),.mov (.t 6)⟩,
   ⟨1,none,(some 2),.mov (.t 35)⟩] [2])
 (.ret))))))⟩
section
variable {prog:Nat->Option mO} {opn:Nat->Bool}
theorem Ew {n:Nat} (h:n≤2^60):IntKind.i64.wrap (n:Int)=(n:Int):=by
 rw[Go.IntWalk.i64_in _ (by omega)]
theorem grow0 {g ti:Nat} (hg:prog g=some (vV ti)) (h:aN):eC prog opn g [.nils,.int .i64 (0:Nat)] h=some (.nils,h):=by
 rw[rI,hg]
 simp[vV,start,fA,fB,dL,fL,aT,wanted,gL,bF,Fr.get,Fr.put,Fr.keep,SX.val,SX.ev,bin,mX,fW,lenOf,jU,iM,dM,gK,jK,IntKind.wrap,IntKind.signed,IntKind.bits]
theorem growS {g ti n:Nat} (hg:prog g=some (vV ti)) (h:aN) (h0:0<n) (hn:n*2≤bY):eC prog opn g [.nils,.int .i64 n] h=some (.sl h.length n 0 0 n,h++[some ⟨1,List.replicate n [.int .u8 0]⟩]):=by
 have hm:n≤2^60:=by unfold bY at hn;omega
 have w0:IntKind.i64.wrap 0=0:=by decide
 have hgt:hget (h++[some ⟨1,List.replicate n [.int .u8 0]⟩]) h.length n=some ⟨1,List.replicate n [.int .u8 0]⟩:=by simp[hget]
 have hap:append h 1 1 .nils (.ro false (List.replicate n [.int .u8 0]))=some (.sl h.length n 0 n n,h++[some ⟨1,List.replicate n [.int .u8 0]⟩]):=by
  simp[append,fF,hn,show n≠0 by omega]
 have hn0:¬((n:Int)<0):=by omega
 have hp0:(0:Int)<n:=by omega
 have hle:(n:Int)*2≤bY:=by omega
 rw[rI,hg]
 simp[vV,start,fA,fB,dL,fL,aT,wanted,gL,bF,Fr.get,Fr.put,Fr.keep,SX.val,SX.ev,bin,mX,fW,lenOf,jU,iM,dM,gK,jK,w0,Ew hm,h0,fQ,kB,hn,hn0,hp0,hle,hgt,hap,Int.le_of_lt hp0]
inductive El (h:aN) (a:IV) (i:Nat) (iv:IV):Prop
 |ro {b es} (e:a = .ro b es) (g:es[i]? = some [iv])
 |sl {b tot off len cap k} (e:a = .sl b tot off len cap) (g:hget h b tot=some k) (hz:k.sz=1) (hi:i<len) (hl:off+len≤tot) (g2:k.es[off+i]? = some [iv])
def f1 (a:IV) (acc n i:Nat):Fr:=[(0,.val a),(3,.val (.int .i64 acc)),(9,.val a),(10,.val (.int .i64 n)),(11,.val (.int .i64 i))]
theorem body1 {ti:Nat} {h:aN} {a iv:IV} {acc m n i:Nat} (hi:i<n) (hn:n≤2^59) (hacc:acc+m≤2^59) (el:El h a i iv) (hL:lenOf iv=some m) (hs:∀s,iv≠.str s):
 fB (eC prog opn) opn lI (nU ti) (f1 a acc n i,h)=some (.normal,(f1 a (acc+m) n (i+1),h)):=by
 have hw:IntKind.i64.wrap ((acc:Int)+(m:Int))=((acc+m:Nat):Int):=by rw[<-Int.natCast_add];exact Ew (by omega)
 have hw1:IntKind.i64.wrap ((i:Int)+1)=((i+1:Nat):Int):=by rw[show (i:Int)+1=((i+1:Nat):Int) by omega];exact Ew (by omega)
 have hneg:¬((acc:Int)+(m:Int)<0):=by omega
 have hlt:(i:Int)<n:=by omega
 have hwa:IntKind.i64.wrap (acc:Int)=acc:=Ew (by omega)
 have hna:¬((acc:Int)<0):=by omega
 have hi0:(0:Int)≤i:=by omega
 cases el with
 |ro e g=>
  subst e
  cases iv<;>simp[lenOf]at hL<;>try (exact(hs _ rfl).elim)
  all_goals
   try subst hL
   simp[lenOf,nU,f1,fB,dL,fL,aT,wanted,gL,bF,Fr.get,Fr.put,Fr.keep,SX.val,SX.ev,bin,mX,fW,kB,eS,hw,hw1,hneg,hlt,hwa,hna,g]
 |sl e g hz hil hl g2=>
  subst e
  cases iv<;>simp[lenOf]at hL<;>try (exact(hs _ rfl).elim)
  all_goals
   try subst hL
   simp[lenOf,nU,f1,fB,dL,fL,aT,wanted,gL,bF,Fr.get,Fr.put,Fr.keep,SX.val,SX.ev,bin,mX,fW,kB,eS,hw,hw1,hneg,hlt,hwa,hna,g,hz,hil,hl,g2]
theorem exit1 {ti:Nat} {h:aN} {a:IV} {acc n:Nat}:fB (eC prog opn) opn lI (nU ti) (f1 a acc n n,h)=some (.exit 0,([(0,.val a),(3,.val (.int .i64 acc)),(9,.val a),(10,.val (.int .i64 n)),(11,.val (.int .i64 n)),(12,.val (.bool false))],h)):=by
 simp[nU,f1,fB,dL,fL,aT,wanted,gL,bF,Fr.get,Fr.put,Fr.keep,SX.val,SX.ev,bin,mX,fW]
def f2 (r a:IV) (n i:Nat):Fr:=[(6,.val r),(25,.val a),(26,.val (.int .i64 n)),(27,.val (.int .i64 i))]
theorem body2 {h h':aN} {a iv r r':IV} {n i:Nat} (hi:i<n) (hn:n≤2^59) (el:El h a i iv) (hA:append h 1 1 r iv=some (r',h')):
 fB (eC prog opn) opn lI nT (f2 r a n i,h)=some (.normal,(f2 r' a n (i+1),h')):=by
 have hw1:IntKind.i64.wrap ((i:Int)+1)=((i+1:Nat):Int):=by rw[show (i:Int)+1=((i+1:Nat):Int) by omega];exact Ew (by omega)
 have hlt:(i:Int)<n:=by omega
 cases el with
 |ro e g=>
  subst e
  simp[nT,f2,fB,dL,fL,aT,wanted,gL,bF,Fr.get,Fr.put,Fr.keep,SX.val,SX.ev,bin,mX,fW,kB,eS,hw1,hlt,g,hA]
 |sl e g hz hil hl g2=>
  subst e
  simp[nT,f2,fB,dL,fL,aT,wanted,gL,bF,Fr.get,Fr.put,Fr.keep,SX.val,SX.ev,bin,mX,fW,kB,eS,hw1,hlt,g,hz,hil,hl,g2,hA]
theorem exit2 {h:aN} {r a:IV} {n:Nat}:fB (eC prog opn) opn lI nT (f2 r a n n,h)=some (.exit 2,([(6,.val r),(25,.val a),(26,.val (.int .i64 n)),(27,.val (.int .i64 n)),(28,.val (.bool false))],h)):=by
 simp[nT,f2,fB,dL,fL,aT,wanted,gL,bF,Fr.get,Fr.put,Fr.keep,SX.val,SX.ev,bin,mX,fW]
theorem Ke {ti:Nat} {h:aN} {a:IV} {lens:List Nat} (hn:lens.length≤2^59) (hel:∀(j m:Nat),lens[j]? = some m->∃iv,El h a j iv/\lenOf iv=some m/\∀s,iv≠.str s):
 ∀(k i acc:Nat),i+k=lens.length->acc+(lens.drop i).sum≤2^59->lI (fB (eC prog opn) opn lI (nU ti)) (f1 a acc lens.length i,h) =
  some (.exit 0,([(0,.val a),(3,.val (.int .i64 ((acc+(lens.drop i).sum:Nat):Int))),(9,.val a),(10,.val (.int .i64 lens.length)),(11,.val (.int .i64 lens.length)),(12,.val (.bool false))],h))
 |0,i,acc,e,_=>by
  have:i=lens.length:=by omega
  subst this
  rw[qX,exit1];simp
 |k+1,i,acc,e,hs=>by
  obtain⟨m,hm⟩:∃m,lens[i]? = some m:=⟨_,aG (by omega)⟩
  obtain⟨iv,el,hL,hstr⟩:=hel i m hm
  have hd:lens.drop i=m::lens.drop (i+1):=by
   obtain⟨hl,rfl⟩:=aJ.1 hm
   exact gO hl
  rw[hd,List.sum_cons]at hs |-
  rw[qX,body1 (by omega) hn (by omega) el hL hstr]
  simp only[aB]
  rw[Ke hn hel k (i+1) (acc+m) (by omega) (by omega),eW]
def Ux (h h':aN):Prop:=h'=h\/∃k,h'=h++[some k]
theorem Ga {h h':aN} {b tot:Nat} {k:mQ} (e:Ux h h') (g:hget h b tot=some k):hget h' b tot=some k:=by
 rcases e with rfl|⟨k',rfl⟩
 ·exact g
 ·obtain⟨h1,h2⟩:=cZ.1 g
  exact cZ.2 ⟨by rw[bC (aJ.1 h1).1];exact h1,h2⟩
theorem El.ext {h h':aN} (e:Ux h h') {a iv:IV} {i:Nat} (x:El h a i iv):El h' a i iv:=by
 cases x with
 |ro e1 g=>exact .ro e1 g
 |sl e1 g hz hi hl g2=>exact .sl e1 (Ga e g) hz hi hl g2
theorem Ml {h h':aN} (e:Ux h h') {iv:IV} {es:List (List IV)} (x:fF h 1 iv=some es):fF h' 1 iv=some es:=by
 cases iv<;>simp only[fF]at x |-<;>try exact x
 obtain⟨k,h1,h2⟩:=aA.1 x
 rw[Ga e h1];exact h2
def wW (h:aN) (tot:Nat) (acc:List (List IV)) (r:IV) (h2:aN):Prop:=
 (tot=0/\acc=[]/\r = .nils/\h2=h)\/(0<tot/\acc.length≤tot/\r = .sl h.length tot 0 acc.length tot/\h2=h++[some ⟨1,acc++List.replicate (tot-acc.length) [.int .u8 0]⟩])
theorem wW.ext {h:aN} {tot:Nat} {acc:List (List IV)} {r:IV} {h2:aN} (c:wW h tot acc r h2):Ux h h2:=by
 rcases c with ⟨_,_,_,e⟩|⟨_,_,_,e⟩
 ·exact .inl e
 ·exact .inr ⟨_,e⟩
theorem Ug {h:aN} {tot:Nat} {acc new:List (List IV)} {r iv:IV} {h2:aN} (c:wW h tot acc r h2) (he:fF h2 1 iv=some new) (hl:acc.length+new.length≤tot):
 ∃r' h2',append h2 1 1 r iv=some (r',h2')/\wW h tot (acc++new) r' h2':=by
 rcases c with ⟨rfl,rfl,rfl,rfl⟩|⟨h0,hle,rfl,rfl⟩
 ·have:new=[]:=bK.1 (by simpa using hl)
  subst this
  exact⟨.nils,h2,by simp[append,he],.inl ⟨rfl,rfl,rfl,rfl⟩⟩
 ·have hg:hget (h++[some ⟨1,acc++List.replicate (tot-acc.length) [.int .u8 0]⟩]) h.length tot=some ⟨1,acc++List.replicate (tot-acc.length) [.int .u8 0]⟩:=cZ.2 ⟨by simp,by simp;omega⟩
  by_cases hnew:new=[]
  ·subst hnew
   exact⟨.sl h.length tot 0 acc.length tot,_,by simp only[append,he,hg,aB];rw[if_neg (by omega),if_pos ⟨by trivial,hle,by omega⟩,if_pos trivial],.inr ⟨h0,by simpa using hle,by simp,by simp⟩⟩
  ·refine⟨.sl h.length tot 0 (acc.length+new.length) tot,_,by simp only[append,he,hg,aB];rw[if_neg (by omega),if_pos ⟨by trivial,hle,by omega⟩,if_neg hnew,if_pos hl],.inr ⟨h0,by simpa using hl,by simp,?_⟩⟩
   simp only[lH _ _ (aK _),Nat.sub_self,List.set_cons_zero,aV,bV]
   have e1:(acc++List.replicate (tot-acc.length) ([.int .u8 0]:List IV)).take acc.length=acc:=by simp
   have e2:(acc++List.replicate (tot-acc.length) ([.int .u8 0]:List IV)).drop (acc.length+new.length)=List.replicate (tot-(acc.length+new.length)) [.int .u8 0]:=by
    rw[List.drop_append,List.drop_eq_nil_of_le (by omega),bZ,List.drop_replicate];congr 1;omega
   rw[e1,e2]
theorem Vg {h:aN} {a:IV} {els:List (List (List IV))} {tot:Nat} (hn:els.length≤2^59) (hel:∀(j:Nat) e,els[j]? = some e->∃iv,El h a j iv/\fF h 1 iv=some e):
 ∀(k i:Nat) (acc:List (List IV)) (r:IV) (h2:aN),i+k=els.length->wW h tot acc r h2->acc.length+(els.drop i).flatten.length=tot->∃r' h2',
  lI (fB (eC prog opn) opn lI nT) (f2 r a els.length i,h2)=some (.exit 2,([(6,.val r'),(25,.val a),(26,.val (.int .i64 els.length)),(27,.val (.int .i64 els.length)),(28,.val (.bool false))],h2'))/\wW h tot (acc++(els.drop i).flatten) r' h2'
 |0,i,acc,r,h2,e,c,_=>by
  have:i=els.length:=by omega
  subst this
  exact⟨r,h2,by rw[qX,exit2];simp,by simpa using c⟩
 |k+1,i,acc,r,h2,e,c,hs=>by
  obtain⟨m,hm⟩:∃m,els[i]? = some m:=⟨_,aG (by omega)⟩
  obtain⟨iv,el,he⟩:=hel i m hm
  have hd:els.drop i=m::els.drop (i+1):=by
   obtain⟨hl,rfl⟩:=aJ.1 hm
   exact gO hl
  rw[hd,cB,aV]at hs
  obtain⟨r1,h1,e1,c1⟩:=Ug c (Ml c.ext he) (by omega)
  obtain⟨r',h',e2,c2⟩:=Vg hn hel k (i+1) (acc++m) r1 h1 (by omega) c1 (by rw[aV];omega)
  refine⟨r',h',?_,by rw[hd,cB,<-bQ];exact c2⟩
  rw[qX,body2 (by omega) hn (el.ext c.ext) e1]
  exact e2
theorem Xy {f g ti:Nat} (hf:prog f=some (Qx ti g)) (hg:prog g=some (vV ti)) (ho:opn g=true) {h:aN} {a:IV} {els:List (List (List IV))} (hn:els.length≤2^59) (hlen:lenOf a=some els.length) (hs:∀s,a≠.str s)
 (hel:∀(j:Nat) e,els[j]? = some e->∃iv,El h a j iv/\fF h 1 iv=some e/\lenOf iv=some e.length/\∀s,iv≠.str s) (hm:els.flatten.length*2≤bY):
 ∃r h',eC prog opn f [a] h=some (r,h')/\wW h els.flatten.length els.flatten r h':=by
 have hb:els.flatten.length≤2^59:=by unfold bY at hm;omega
 have hsum:(els.map List.length).sum=els.flatten.length:=by rw[List.length_flatten]
 have l1:=Ke (prog:=prog) (opn:=opn) (ti:=ti) (h:=h) (a:=a) (lens:=els.map List.length) (by simpa using hn) (fun j m hj=>by
  rw[Nm]at hj
  obtain⟨e,he,rfl⟩:=aZ.1 hj
  obtain⟨iv,x1,_,x3,x4⟩:=hel j e he
  exact⟨iv,x1,x3,x4⟩) els.length 0 0 (by simp) (by rw[eO,hsum];omega)
 obtain⟨r0,h0,gr,c0⟩:∃r0 h0,eC prog opn g [.nils,.int .i64 els.flatten.length] h=some (r0,h0)/\wW h els.flatten.length [] r0 h0:=by
  by_cases h0:els.flatten.length=0
  ·rw[h0];exact⟨_,_,grow0 hg h,.inl ⟨rfl,rfl,rfl,rfl⟩⟩
  ·exact⟨_,_,growS hg h (by omega) hm,.inr ⟨by omega,by simp,by simp,by simp⟩⟩
 obtain⟨r,h',l2,c2⟩:=Vg (prog:=prog) (opn:=opn) hn (fun j e he=>by obtain⟨iv,x1,x2,_⟩:=hel j e he;exact⟨iv,x1,x2⟩) els.length 0 [] r0 h0 (by simp) c0 (by simp)
 refine⟨r,h',?_,by simpa using c2⟩
 simp only[eO,hsum,An,f1,bV,Int.natCast_zero]at l1
 simp only[f2,Int.natCast_zero]at l2
 have hlo:∀(d:Option Nat) (t:Nat) (s:St),(SX.t t).val s.1=some a->aT (eC prog opn) opn d (.len false (.t t)) s=some (.val (.int .i64 els.length),s):=fun d t s ht=>by
  simp only[aT,ht,aB]
  cases a<;>first|(simp[lenOf]at hlen;done)|exact(hs _ rfl).elim|(have:=Option.some.inj hlen;rw[<-this];rfl)
 rw[rI,hf]
 simp[Qx,start,fA,fB,dL,fL,aT,wanted,gL,bF,Fr.get,Fr.put,Fr.keep,SX.val,SX.ev,jU,iM,dM,gK,jK,l1,l2,iX,ho,gr,hlen,-List.length_flatten]
end
theorem Ol {p:Bool} {Z:Nat->Prop} {h:aN} {t:Ty} {l:List t.den} {a:IV} (w:TR p Z h true (.lst t) true l [a]):
 ∃es,lenOf a=some es.length/\(∀s,a≠.str s)/\fF h t.n a=some es/\dI (TR p Z h true t true) l es/\(t.n=1->∀(j:Nat) iv,es[j]? = some [iv]->El h a j iv):=by
 simp only[TR]at w
 obtain⟨iv,e,w⟩:=w
 injection e with e _;subst e
 rcases w with ⟨rfl,rfl|rfl⟩|⟨bo,es,rfl,_,w⟩|⟨_,b,tot,off,len,cap,k,rfl,_,hg,hk,⟨h1,h2⟩,w⟩
 ·exact⟨[],rfl,by simp,rfl,trivial,by simp⟩
 ·exact⟨[],rfl,by simp,rfl,trivial,by simp⟩
 ·exact⟨es,rfl,by simp,by simp only[fF];rw[if_pos (TR.sz w)],w.imp fun _ _ h=>TR.flags (by simp) (by simp) h,fun _ j iv g=>.ro rfl g⟩
 ·have hl:k.es.length=tot:=(cZ.1 hg).2
  refine⟨(k.es.drop off).take len,by simp only[lenOf,bP,bW];congr 1;omega,by simp,by simp only[fF,hg,aB];rw[if_pos ⟨hk,h1⟩],w,fun hn j iv g=>?_⟩
  rw[gW]at g
  split at g
  ·rename_i hj
   rw[gX]at g
   exact .sl rfl hg (by rw[hk,hn]) hj h1 g
  ·cases g
theorem Qt {p:Bool} {Z:Nat->Prop} {h:aN}:∀{l:List (List Int)} {es:List (List IV)},dI (TR p Z h true (.lst (.int .u8)) true) l es->
 ∃els:List (List (List IV)),els.length=l.length/\dI (TR p Z h true (.int .u8) true) l.flatten els.flatten/\∀(j:Nat) e,els[j]? = some e->∃iv,es[j]? = some [iv]/\fF h 1 iv=some e/\lenOf iv=some e.length/\∀s,iv≠.str s
 |[],[],_=>⟨[],rfl,trivial,by simp⟩
 |[],_::_,w=>w.elim
 |_::_,[],w=>w.elim
 |x::l,c::es,w=>by
  obtain⟨els,h1,h2,h3⟩:=Qt w.2
  have w1:=w.1
  have hc:∃iv,c=[iv]:=by
   have:=w1
   simp only[TR]at this
   obtain⟨iv,e,_⟩:=this
   exact⟨iv,e⟩
  obtain⟨iv,rfl⟩:=hc
  obtain⟨cs,q1,q2,q3,q4,_⟩:=Ol w1
  refine⟨cs::els,by simp[h1],?_,fun j e he=>?_⟩
  ·rw[cB,cB];exact q4.app h2
  ·cases j with
   |zero=>simp at he;subst he;exact⟨iv,rfl,q3,q1,q2⟩
   |succ j=>exact h3 j e (by simpa using he)
def Uh (x:List (List Int)):Option (List Int):=cut (decide (x.length≤bY)) (cut (decide (x.flatten.length*2≤bY)) (some x.flatten))
def Gv:OC:=⟨1,[(0,.val true true ⟨false,.lst (.lst (.int .u8))⟩)],[(pE,.own (.int .u8))],[],1,Uh⟩
theorem Qw {prog:Nat->Option mO} {opn:Nat->Bool} {f g ti:Nat} (hf:prog f=some (Qx ti g)) (hg:prog g=some (vV ti)) (ho:opn g=true):eU prog opn f Gv:=by
 intro p Z h rt ivs x L O hlen sf sep rti y hy
 obtain⟨s,⟨⟩⟩:=x
 simp only[Gv,SF,KF]at sf
 obtain⟨L1,L2,O1,O2,rfl,rfl,⟨⟨iv0,h0,w0⟩,rfl,rfl⟩,rfl,rfl⟩:=sf
 have hl1:ivs.length=1:=hlen
 match ivs,hl1 with
 |[a],_=>
 simp[fA,Fr.get]at h0
 subst h0
 simp only[TV]at w0
 rw[if_neg (by simp)]at w0
 have e1:(tX (a:=Gv.inn.hs) (s,()))=s:=rfl
 rw[e1]at hy
 replace w0:TR p Z h true (.lst (.lst (.int .u8))) true s [a]:=w0
 unfold Gv Uh at hy
 simp only at hy
 obtain⟨k1,hy⟩:=dZ.1 hy
 obtain⟨k2,hy⟩:=dZ.1 hy
 injection hy with hy
 replace k1:=of_decide_eq_true k1
 replace k2:=of_decide_eq_true k2
 obtain⟨es,a1,a2,a3,a4,a5⟩:=Ol w0
 obtain⟨els,b1,b2,b3⟩:=Qt a4
 have hlf:els.flatten.length=(List.flatten s).length:=b2.len
 have hle:es.length=els.length:=by rw[b1];exact a4.len
 obtain⟨r,h',ev,st⟩:=Xy hf hg ho (h:=h) (a:=a) (els:=els) (by rw[b1];unfold bY at k1;omega) (by rw[<-hle];exact a1) a2 (fun j e he=>by
  obtain⟨iv,q1,q2,q3,q4⟩:=b3 j e he
  exact⟨iv,a5 rfl j iv q1,q2,q3,q4⟩) (by rw[hlf];exact k2)
 subst hy
 rcases st with ⟨t0,t1,rfl,rfl⟩|⟨t0,t1,rfl,rfl⟩
 ·have hs0:List.flatten s=[]:=bK.1 (by rw[<-hlf];exact t0)
  refine⟨[.nils],h',Z,[(none,[])],[],[(pE,.val .nils)],ev,rfl,⟨[(none,[])],[],[],[],rfl,rfl,⟨.nils,none,by simp[Fr.get],⟨.inl rfl,hs0⟩,rfl,rfl⟩,rfl,rfl⟩,?_,by simp,?_,⟨fun _ h=>h,fun _ _=>rfl⟩⟩
  ·intro j r hr
   cases j with
   |zero=>simp at hr;subst hr;simp[Fr.get]
   |succ j=>simp at hr
  ·exact⟨by simp[cS],by simp[cS],by simp,by simp,by simp,⟨aK _,fun _ _ _=>rfl⟩,fun x hx=>⟨sep.zb x hx,.inl hx⟩,fun x hx=>hx⟩
 ·have zle:Ns Z Z h (h++[some ⟨1,els.flatten++List.replicate (els.flatten.length-els.flatten.length) [.int .u8 0]⟩]):=⟨fun _ h=>h,fun b hb=>bC (sep.zb b hb)⟩
  refine⟨[.sl h.length els.flatten.length 0 els.flatten.length els.flatten.length],_,Z,[(some h.length,[])],[],[(pE,.val (.sl h.length els.flatten.length 0 els.flatten.length els.flatten.length))],ev,rfl,⟨[(some h.length,[])],[],[],[],rfl,rfl,⟨.sl h.length els.flatten.length 0 els.flatten.length els.flatten.length,some h.length,by simp[Fr.get],⟨?_,els.flatten,by simp;rfl,b2.imp fun _ _ g=>TR.mono zle g⟩,rfl,rfl⟩,rfl,rfl⟩,?_,by simp,?_,zle⟩
  ·show fC (some h.length) (List.flatten s).length _
   rw[<-hlf];rfl
  ·intro j r hr
   cases j with
   |zero=>simp at hr;subst hr;simp[Fr.get]
   |succ j=>simp at hr
  ·refine⟨fun x hx=>?_,by simp[cS],by simp,by simp,by simp,⟨by simp,fun x hx _=>bC hx⟩,fun x hx=>⟨by have:=sep.zb x hx;simp;omega,.inl hx⟩,fun x hx=>hx⟩
   simp[cS]at hx
   subst hx
   exact⟨.inr (aK _),fun hz=>absurd (sep.zb _ hz) (by omega),by simp⟩
end Go.Ideal
