/- Cells are read by both sides. -/
import Derived.Test.YthhcpaffhbmoaaaPlia
set_option linter.unusedVariables false
set_option linter.unusedSimpArgs false
namespace Go.Ideal.Seat
open Go.Ideal.Plain
end Go.Ideal.Seat
set_option linter.unusedVariables false
set_option linter.unusedSimpArgs false
namespace Go.Ideal.Seat
open Go.Ideal.Plain
def encSpan (s:Sp):List Int:=numB s.1.toNat++(numB s.2.1.toNat++(numB s.2.2.length++encCells s.2.2))
def encDelta (d:Dlt):List Int:=numB d.1.toNat++(numB d.2.1.toNat++(numB d.2.2.1.length++(d.2.2.1.flatMap encSpan++(numB d.2.2.2.1.toNat++(numB d.2.2.2.2.1.toNat++((if d.2.2.2.2.2.1=true then 1 else 0)::(numB d.2.2.2.2.2.2.1.length++(ints d.2.2.2.2.2.2.1++numB d.2.2.2.2.2.2.2.toNat))))))))
def spanFine (s:Sp):Prop:=0≤s.1∧s.1≤72057594037927935∧0≤s.2.1∧s.2.1≤72057594037927935∧1≤s.2.2.length∧s.2.2.length≤132∧∀c∈s.2.2,cellOk c=true
theorem delta_fine {d:Dlt} (h:deltaOk d=true):(0≤d.1∧d.1≤60∧0≤d.2.1∧d.2.1≤132)∧(∀s∈d.2.2.1,spanFine s)∧0≤d.2.2.2.1∧d.2.2.2.1≤60∧0≤d.2.2.2.2.1∧d.2.2.2.2.1≤132∧d.2.2.2.2.2.2.1.length≤64∧0≤d.2.2.2.2.2.2.2∧d.2.2.2.2.2.2.2≤1073741824:=by
 unfold deltaOk at h
 simp only[Bool.and_eq_true]at h
 obtain⟨⟨hs,hi⟩,hsp⟩:=h
 have hw:=spansOk_within hsp
 have hs':=hs
 unfold sizeOk at hs'
 unfold sideOk titleOk at hi
 simp only[Bool.and_eq_true,decide_eq_true_eq]at hs' hi
 refine⟨by omega,fun s hm=>?_,by omega,by omega,by omega,by omega,hi.1.2.1.1,by omega,by omega⟩
 have:=hw s hm
 unfold within inRow at this
 simp only[Bool.and_eq_true,decide_eq_true_eq,List.all_eq_true]at this
 exact⟨by omega,by omega,by omega,by omega,by omega,by omega,this.2⟩
end Go.Ideal.Seat
set_option linter.unusedVariables false
set_option linter.unusedSimpArgs false
namespace Go.Ideal.Seat
open Go.Ideal.Plain
end Go.Ideal.Seat
set_option linter.unusedVariables false
set_option linter.unusedSimpArgs false
namespace Go.Ideal.Seat
open Go.Ideal.Plain
end Go.Ideal.Seat
set_option linter.unusedVariables false
set_option linter.unusedSimpArgs false
namespace Go.Ideal.Seat
open Go.Ideal.Plain
theorem wNumI {b:List Int} {n:Int} (h:0≤n) (h2:n≤72057594037927935) (hb:b.length≤2^39):O_codec_Writer_Number ((b,0),n)=some (b++numB n.toNat,0):=by
 have:=wNum_eq b n.toNat (by omega) hb
 rwa [Int.toNat_of_nonneg h]at this
theorem encCells_len {l:List Cell} (h:∀c∈l,cellOk c=true) (hl:l.length≤2^30):(encCells l).length≤45*l.length:=by
 obtain⟨r1,r2⟩:=runs_cells h none (by simp)
 obtain⟨r3,r4⟩:=runs_len r1
 rw[r2]at r3 r4
 unfold encCells
 have key:∀x:List Rn,(∀y∈x,y.1≤l.length∧cellOk y.2=true)→(x.flatMap encRun).length≤45*x.length:=fun x hx=>by
  induction x with
  |nil=>simp
  |cons y x ih=>
   have h1:=encRun_len (x:=y) (hx y (by simp)).2 (by have:=(hx y (by simp)).1;omega)
   have h2:=ih fun z hz=>hx z (by simp[hz])
   simp only[List.flatMap_cons,List.length_append,List.length_cons]
   omega
 have:=key _ r4
 omega
theorem encSpan_len {s:Sp} (h:spanFine s):(encSpan s).length≤6000:=by
 obtain⟨h1,h2,h3,h4,h5,h6,h7⟩:=h
 have a1:=numB_len (n:=s.1.toNat) (by omega)
 have a2:=numB_len (n:=s.2.1.toNat) (by omega)
 have a3:=numB_len (n:=s.2.2.length) (by omega)
 have a4:=encCells_len h7 (by omega)
 unfold encSpan
 simp only[List.length_append]
 omega
def few4 (d:Dlt):Prop:=d.2.2.1.length≤2^20
theorem deltaBytes_eq (d:Dlt) (hf:fewD d) (h4:few4 d):F_delta_Bytes d=some (if deltaOk d=true then (encDelta d,0) else ([],6)):=by
 unfold F_delta_Bytes
 rw[deltaRight_eq d hf]
 simp only[Option.bind_some]
 cases hd:deltaOk d with
 |false=>rfl
 |true=>
  obtain⟨⟨a1,a2,a3,a4⟩,a5,a6,a7,a8,a9,a10,a11,a12⟩:=delta_fine hd
  unfold few4 at h4
  have n1:=numB_len (n:=d.1.toNat) (by omega)
  have n2:=numB_len (n:=d.2.1.toNat) (by omega)
  have n3:=numB_len (n:=d.2.2.1.length) (by omega)
  have n4:=numB_len (n:=d.2.2.2.1.toNat) (by omega)
  have n5:=numB_len (n:=d.2.2.2.2.1.toNat) (by omega)
  have n6:=numB_len (n:=d.2.2.2.2.2.2.1.length) (by omega)
  have n7:=numB_len (n:=d.2.2.2.2.2.2.2.toNat) (by omega)
  simp only[Bool.not_true,cond_false,O_codec_NewWriter,Option.bind_some]
  rw[wNumI a1 (by omega) (by simp)]
  simp only[Option.bind_some,List.nil_append]
  rw[wNumI a3 (by omega) (by omega)]
  simp only[Option.bind_some]
  rw[wNum_eq _ d.2.2.1.length (by omega) (by rw[List.length_append];omega)]
  simp only[Option.bind_some]
  rw[foldLoop (l:=d.2.2.1) (fun(o:List Int) i=>(o,(0:Int),i)) (fun o s=>o++encSpan s) (fun i o=>o.length≤27+6000*i) (fin:=fun o=>(o,0,(d.2.2.1.length:Int),false)) (by simp only[List.length_append];omega) (fun o i s he hi hv=>?_) (fun o hv=>by simp)]
  ·have hsl:(d.2.2.1.flatMap encSpan).length≤6000*d.2.2.1.length:=by
    have key:∀l:List Sp,(∀s∈l,spanFine s)→(l.flatMap encSpan).length≤6000*l.length:=fun l hl=>by
     induction l with
     |nil=>simp
     |cons s l ih=>
      have h1:=encSpan_len (hl s (by simp))
      have h2:=ih fun z hz=>hl z (by simp[hz])
      simp only[List.flatMap_cons,List.length_append,List.length_cons]
      omega
    exact key _ a5
   have hm:d.2.2.2.2.2.2.1.length≤most:=by unfold most;omega
   have hil:=ints_len d.2.2.2.2.2.2.1
   simp only[Option.bind_some,foldl_app]
   rw[wNumI a6 (by omega) (by simp only[List.length_append];omega)]
   simp only[Option.bind_some]
   rw[wNumI a8 (by omega) (by simp only[List.length_append];omega)]
   simp only[Option.bind_some]
   rw[wBool_eq _ _ (by simp only[List.length_append];omega)]
   simp only[Option.bind_some,hm,decide_true,cond_true]
   have ht:=fun o ho=>wText_eq o (ints d.2.2.2.2.2.2.1) (by omega) ho
   unfold ints at ht hil
   rw[ht _ (by simp only[List.length_append,List.length_cons,List.length_nil];omega)]
   simp only[Option.bind_some]
   rw[wNumI a11 (by omega) (by simp only[List.length_append,List.length_cons,List.length_nil,List.length_map];omega)]
   simp only[Option.bind_some]
   rw[wBytes_eq _ (by simp only[List.length_append,List.length_cons,List.length_nil,List.length_map];omega)]
   simp only[Option.bind_some,if_true,Option.some.injEq,Prod.mk.injEq,and_true]
   unfold encDelta ints
   rw[hil]
   simp only[List.append_assoc,List.cons_append,List.nil_append]
  ·have hs:=a5 s (List.mem_of_getElem? he)
   obtain⟨h1,h2,h3,h4',h5,h6,h7⟩:=hs
   have m1:=numB_len (n:=s.1.toNat) (by omega)
   have m2:=numB_len (n:=s.2.1.toNat) (by omega)
   have m3:=numB_len (n:=s.2.2.length) (by omega)
   have hi':(i:Int)<(d.2.2.1.length:Int):=by omega
   have hsl:=encSpan_len (s:=s) ⟨h1,h2,h3,h4',h5,h6,h7⟩
   refine⟨?_,by rw[List.length_append];omega⟩
   simp only[hi',decide_true,cond_true,Int.natCast_nonneg,Int.toNat_natCast,he,Option.bind_some,wsucc (show i<2^62 by omega)]
   rw[wNumI h1 (by omega) (by omega)]
   simp only[Option.bind_some]
   rw[wNumI h3 (by omega) (by rw[List.length_append];omega)]
   simp only[Option.bind_some]
   rw[wNum_eq _ s.2.2.length (by omega) (by simp only[List.length_append];omega)]
   simp only[Option.bind_some]
   rw[cellWrite_eq _ _ h7 (by omega) (by simp only[List.length_append];omega)]
   simp only[Option.bind_some,encSpan,List.append_assoc]
theorem refBytesD_eq (d:Dlt) (hd:deltaOk d=true) (h4:few4 d):F_batonref18_Bytes (refD d)=some (encDelta d):=by
 rw[show refD d=(d.1,d.2.1,d.2.2.1,(0,0,[],d.2.2.2)) from rfl]
 unfold F_batonref18_Bytes
 obtain⟨⟨a1,a2,a3,a4⟩,a5,a6,a7,a8,a9,a10,a11,a12⟩:=delta_fine hd
 unfold few4 at h4
 have n1:=numB_len (n:=d.1.toNat) (by omega)
 have n2:=numB_len (n:=d.2.1.toNat) (by omega)
 have n3:=numB_len (n:=d.2.2.1.length) (by omega)
 have n4:=numB_len (n:=d.2.2.2.1.toNat) (by omega)
 have n5:=numB_len (n:=d.2.2.2.2.1.toNat) (by omega)
 have n6:=numB_len (n:=d.2.2.2.2.2.2.1.length) (by omega)
 have n7:=numB_len (n:=d.2.2.2.2.2.2.2.toNat) (by omega)
 simp only[]
 rw[outLoop [d.1,d.2.1,(d.2.2.1.length:Int)] (fun e he=>by simp only[List.mem_cons,List.not_mem_nil,or_false]at he;omega) [] (by simp)]
 simp only[Option.bind_some,List.nil_append,List.flatMap_cons,List.flatMap_nil,Int.toNat_natCast,List.append_nil]
 rw[foldLoop (l:=d.2.2.1) (fun(o:List Int) i=>(o,i)) (fun o s=>o++encSpan s) (fun i o=>o.length≤27+6000*i) (fin:=fun o=>(o,(d.2.2.1.length:Int),false)) (by simp only[List.length_append];omega) (fun o i s he hi hv=>?_) (fun o hv=>by simp)]
 ·have hsl:(d.2.2.1.flatMap encSpan).length≤6000*d.2.2.1.length:=by
   have key:∀l:List Sp,(∀s∈l,spanFine s)→(l.flatMap encSpan).length≤6000*l.length:=fun l hl=>by
    induction l with
    |nil=>simp
    |cons s l ih=>
     have h1:=encSpan_len (hl s (by simp))
     have h2:=ih fun z hz=>hl z (by simp[hz])
     simp only[List.flatMap_cons,List.length_append,List.length_cons]
     omega
   exact key _ a5
  have r1:=refNum_eq d.2.2.2.1.toNat (by omega)
  have r2:=refNum_eq d.2.2.2.2.1.toNat (by omega)
  have r3:=refNum_eq d.2.2.2.2.2.2.1.length (by omega)
  have r4:=refNum_eq d.2.2.2.2.2.2.2.toNat (by omega)
  rw[Int.toNat_of_nonneg a6]at r1
  rw[Int.toNat_of_nonneg a8]at r2
  rw[Int.toNat_of_nonneg a11]at r4
  have hb:(bif d.2.2.2.2.2.1 then some (1:Int) else some 0)=some (if d.2.2.2.2.2.1=true then 1 else 0):=by cases d.2.2.2.2.2.1<;>rfl
  have hmk:∀n:Nat,n≤2^40→n*(1+1)≤most:=fun n hn=>by unfold most;omega
  simp only[Option.bind_some,foldl_app,r1,r2,r3,r4,hb]
  rw[@decide_eq_true _ _ (hmk _ (by simp only[List.length_append];omega))]
  simp only[cond_true]
  rw[@decide_eq_true _ _ (hmk _ (by simp only[List.length_append];omega))]
  simp only[cond_true]
  rw[@decide_eq_true _ _ (hmk _ (by simp only[List.length_append,List.length_cons,List.length_nil];omega))]
  simp only[cond_true]
  rw[@decide_eq_true _ _ (hmk _ (by simp only[List.length_append,List.length_cons,List.length_nil];omega))]
  simp only[cond_true]
  rw[@decide_eq_true _ _ (hmk _ (by simp only[List.length_append,List.length_cons,List.length_nil,List.length_map];omega))]
  simp only[cond_true]
  rw[@decide_eq_true _ _ (hmk _ (by simp only[List.length_append,List.length_cons,List.length_nil,List.length_map];omega))]
  simp only[cond_true]
  unfold encDelta ints
  simp only[List.append_assoc,List.cons_append,List.nil_append]
 ·have hs:=a5 s (List.mem_of_getElem? he)
  obtain⟨h1,h2,h3,h4',h5,h6,h7⟩:=hs
  have m1:=numB_len (n:=s.1.toNat) (by omega)
  have m2:=numB_len (n:=s.2.1.toNat) (by omega)
  have m3:=numB_len (n:=s.2.2.length) (by omega)
  have hcl:=encCells_len h7 (by omega)
  have hi':(i:Int)<(d.2.2.1.length:Int):=by omega
  have hsl:=encSpan_len (s:=s) ⟨h1,h2,h3,h4',h5,h6,h7⟩
  refine⟨?_,by rw[List.length_append];omega⟩
  simp only[hi',decide_true,cond_true,Int.natCast_nonneg,Int.toNat_natCast,he,Option.bind_some,wsucc (show i<2^62 by omega)]
  rw[outLoop [s.1,s.2.1,(s.2.2.length:Int)] (fun e he=>by simp only[List.mem_cons,List.not_mem_nil,or_false]at he;omega) o (by simp only[List.length_cons,List.length_nil];omega)]
  simp only[Option.bind_some,List.flatMap_cons,List.flatMap_nil,Int.toNat_natCast,List.append_nil,refCells_eq _ h7 (by omega)]
  have hm:((o++(numB s.1.toNat++(numB s.2.1.toNat++numB s.2.2.length))).length+(encCells s.2.2).length)*(1+1)≤most:=by
   unfold most;simp only[List.length_append];omega
  simp only[hm,decide_true,cond_true,encSpan,List.append_assoc]
theorem bytes_same (a b:List Int) (h:a.length<2^60):F_batonref01_Same (a,b)=some (decide (a=b)):=by
 unfold F_batonref01_Same
 by_cases hl:a.length=b.length
 ·have hne:((((a.length):Nat):Int) != (((b.length):Nat):Int))=false:=by simp[hl]
  simp only[hne,cond_false]
  rw[sameLoop (l:=a) (m:=b) hl (fun d e=>decide (d=e)) (z:=((a.length:Int),false)) (fun i d e hd he=>?_) (by simp)]
  ·have:=zip_all_eq (l:=a) (m:=b) hl (p:=fun x=>decide (x.1=x.2)) (by simp)
   by_cases hab:a=b
   ·rw[if_pos (this.2 hab)];simp[hab]
   ·rw[if_neg (fun h=>hab (this.1 h))];simp[hab]
  ·have hi:=getE_bound hd
   have hi':(i:Int)<(a.length:Int):=by omega
   have hbq:(d != e) = !decide (d=e):=by by_cases h:d=e<;>simp[h]
   simp only[hi',decide_true,cond_true,Int.natCast_nonneg,Int.toNat_natCast,hd,he,Option.bind_some,hbq,wsucc (show i<2^62 by omega)]
   by_cases hde:d=e<;>simp[hde]
 ·have hne:((((a.length):Nat):Int) != (((b.length):Nat):Int))=true:=by simp;omega
  have:a≠b:=fun e=>hl (by rw[e])
  simp only[hne,cond_true,this,decide_false]
theorem encDelta_len {d:Dlt} (h:deltaOk d=true) (h4:few4 d):(encDelta d).length≤2^36:=by
 obtain⟨⟨a1,a2,a3,a4⟩,a5,a6,a7,a8,a9,a10,a11,a12⟩:=delta_fine h
 unfold few4 at h4
 have n1:=numB_len (n:=d.1.toNat) (by omega)
 have n2:=numB_len (n:=d.2.1.toNat) (by omega)
 have n3:=numB_len (n:=d.2.2.1.length) (by omega)
 have n4:=numB_len (n:=d.2.2.2.1.toNat) (by omega)
 have n5:=numB_len (n:=d.2.2.2.2.1.toNat) (by omega)
 have n6:=numB_len (n:=d.2.2.2.2.2.2.1.length) (by omega)
 have n7:=numB_len (n:=d.2.2.2.2.2.2.2.toNat) (by omega)
 have hil:=ints_len d.2.2.2.2.2.2.1
 have key:∀l:List Sp,(∀s∈l,spanFine s)→(l.flatMap encSpan).length≤6000*l.length:=fun l hl=>by
  induction l with
  |nil=>simp
  |cons s l ih=>
   have h1:=encSpan_len (hl s (by simp))
   have h2:=ih fun z hz=>hl z (by simp[hz])
   simp only[List.flatMap_cons,List.length_append,List.length_cons]
   omega
 have:=key _ a5
 unfold encDelta
 simp only[List.length_append,List.length_cons]
 omega
end Go.Ideal.Seat
set_option linter.unusedVariables false
set_option linter.unusedSimpArgs false
namespace Go.Ideal.Seat
open Go.Ideal.Plain
end Go.Ideal.Seat
set_option linter.unusedVariables false
set_option linter.unusedSimpArgs false
namespace Go.Ideal.Seat
open Go.Ideal.Plain
def blankI (r c:Int):Img:=(r,c,(grid0 r c).2.2,0,0,false,[],0)
def zeroI:Img:=(0,0,[],0,0,false,[],0)
theorem blankP_eq (r c:Int):F_paint_Blank (r,c)=some (if sizeOk r c=true then (blankI r c,0) else (zeroI,22)):=by
 unfold F_paint_Blank O_grid_New
 rw[size_eq]
 cases hs:sizeOk r c with
 |false=>rfl
 |true=>
  obtain⟨h1,h2,h3⟩:=size_mul hs
  have hb:=blanks_eq (r*c).toNat (by omega)
  rw[Int.toNat_of_nonneg (by omega)]at hb
  simp only[Option.bind_some,Bool.not_true,cond_false,h3,hb]
  simp only[O_grid_Board_Grid,clone_eq (List.replicate (r*c).toNat blankC) (by simp;omega),Option.bind_some,decide_true,cond_true,if_true]
  rfl
theorem img_small {x:Img} (h:imageOk x=true):x.2.2.1.length≤7920∧x.2.2.2.2.2.2.1.length≤64:=by
 obtain⟨R,C,_,_,_,_,_,_,h1,h2,_⟩:=img_nat h
 unfold imageOk titleOk at h
 simp only[Bool.and_eq_true,decide_eq_true_eq]at h
 exact⟨by omega,h.1.2.1.1⟩
end Go.Ideal.Seat
set_option linter.unusedVariables false
set_option linter.unusedSimpArgs false
namespace Go.Ideal.Seat
open Go.Ideal.Plain
abbrev Mir:=Int×Int×Int×List Cell×Int×Int×Bool×List UInt8×Int×Bool×Int×Int×Int×List Cell×Int×Int×Bool×List UInt8×Int
def mkM (no:Int) (b:Img) (s:Bool) (t:Int) (i:Img):Mir:=(no,b.1,b.2.1,b.2.2.1,b.2.2.2.1,b.2.2.2.2.1,b.2.2.2.2.2.1,b.2.2.2.2.2.2.1,b.2.2.2.2.2.2.2,s,t,i)
theorem mkM_all (m:Mir):∃no b s t i,m=mkM no b s t i:=by
 obtain⟨no,b1,b2,b3,b4,b5,b6,b7,b8,s,t,i⟩:=m
 exact⟨no,(b1,b2,b3,b4,b5,b6,b7,b8),s,t,i,rfl⟩
theorem mkM_inj {no no':Int} {b b':Img} {s s':Bool} {t t':Int} {i i':Img}:mkM no b s t i=mkM no' b' s' t' i'↔no=no'∧b=b'∧s=s'∧t=t'∧i=i':=by
 obtain⟨b1,b2,b3,b4,b5,b6,b7,b8⟩:=b
 obtain⟨c1,c2,c3,c4,c5,c6,c7,c8⟩:=b'
 simp only[mkM,Prod.mk.injEq]
 constructor
 ·rintro⟨a,d1,d2,d3,d4,d5,d6,d7,d8,e,f,g⟩
  exact⟨a,⟨d1,d2,d3,d4,d5,d6,d7,d8⟩,e,f,g⟩
 ·rintro⟨a,⟨d1,d2,d3,d4,d5,d6,d7,d8⟩,e,f,g⟩
  exact⟨a,d1,d2,d3,d4,d5,d6,d7,d8,e,f,g⟩
open Classical in
theorem imgSame_eq (x y:Img) (h:x.2.2.1.length≤2^60):F_batonref16_Same (x,y)=some (decide (x=y)):=by
 unfold F_batonref16_Same F_batonref10_Same
 have bq:∀{α:Type} [BEq α] [LawfulBEq α] (a b:α),(a==b)=decide (a=b):=fun a b=>by rw[Bool.eq_iff_iff];simp
 have hc:=cells_same x.2.2.1 y.2.2.1 h
 obtain⟨x1,x2,x3,x4,x5,x6,x7,x8⟩:=x
 obtain⟨y1,y2,y3,y4,y5,y6,y7,y8⟩:=y
 simp only at hc
 simp only[hc,Option.bind_some,bq,Prod.mk.injEq]
 by_cases a:x1=y1<;>by_cases b:x2=y2<;>by_cases c:x3=y3<;>by_cases d:x4=y4<;>by_cases e:x5=y5<;>by_cases f:x6=y6<;>by_cases g:x7=y7<;>by_cases k:x8=y8<;>simp[a,b,c,d,e,f,g,k]
theorem paintSame_ref (x y:Img):F_paint_Same (x,y)=F_batonref16_Same (x,y):=rfl
open Classical in
noncomputable def mirOk (no:Int) (b:Img) (s:Bool) (t:Int) (i:Img):Bool:=decide (0≤no∧no≤281474976710656)&&imageOk b&&(if s=true then decide (no<281474976710656∧t=no+1)&&imageOk i else decide (t=0∧i=zeroI))
def smallI (x:Img):Prop:=x.2.2.1.length≤2^36∧x.2.2.2.2.2.2.1.length≤2^36
theorem img_smallI {x:Img} (h:imageOk x=true):smallI x:=by
 have:=img_small h
 exact⟨by omega,by omega⟩
theorem mirRight_eq (no:Int) (b:Img) (s:Bool) (t:Int) (i:Img) (hb:smallI b) (hi:smallI i):F_mirror_Right (mkM no b s t i)=some (mirOk no b s t i):=by
 unfold F_mirror_Right mirOk mkM
 obtain⟨h1,h2⟩:=hb
 obtain⟨h3,h4⟩:=hi
 have hpb:=paintRight_eq b (by omega) (by omega)
 have hpi:=paintRight_eq i (by omega) (by omega)
 have hs:=(paintSame_ref i zeroI).trans (imgSame_eq i zeroI (by omega))
 unfold zeroI at hs ⊢
 obtain⟨b1,b2,b3,b4,b5,b6,b7,b8⟩:=b
 simp only[hpb,hpi,hs,Option.bind_some]
 by_cases a1:no<0
 ·have:¬(0≤no∧no≤281474976710656):=by omega
  simp[a1,this]
 ·by_cases a2:no>281474976710656
  ·have:¬(0≤no∧no≤281474976710656):=by omega
   simp[a1,a2,this]
  ·have a3:0≤no∧no≤281474976710656:=by omega
   have hw:IntKind.wrap .i64 (no+1)=no+1:=w64 (by omega) (by omega)
   simp only[a1,a2,a3,hw,decide_false,decide_true,and_self,beq_self_eq_true,cond_true,Option.bind_some,Bool.true_and]
   cases imageOk (b1,b2,b3,b4,b5,b6,b7,b8) with
   |false=>rfl
   |true=>
    cases s with
    |false=>
     by_cases c:t=0
     ·simp[c]
     ·have:(t==0)=false:=by simpa using c
      simp[c,this]
    |true=>
     by_cases c:no<281474976710656
     ·by_cases d:t=no+1
      ·simp[c,d]
      ·have:(t==no+1)=false:=by simpa using d
       simp[c,d,this]
     ·simp[c]
theorem refMirRight_eq (no:Int) (b:Img) (s:Bool) (t:Int) (i:Img) (hb:smallI b) (hi:smallI i) (hr:runesIn b.2.2.1) (hri:runesIn i.2.2.1):F_batonref34_Right (mkM no b s t i)=some (mirOk no b s t i):=by
 unfold F_batonref34_Right mirOk mkM
 obtain⟨h1,h2⟩:=hb
 obtain⟨h3,h4⟩:=hi
 have hpb:=refImage_eq b (by omega) (by omega) hr
 have hpi:=refImage_eq i (by omega) (by omega) hri
 have hs:=imgSame_eq i zeroI (by omega)
 unfold zeroI at hs ⊢
 obtain⟨b1,b2,b3,b4,b5,b6,b7,b8⟩:=b
 simp only[hpb,hpi,hs,Option.bind_some]
 by_cases a1:no<0
 ·have:¬(0≤no∧no≤281474976710656):=by omega
  simp[a1,this]
 ·by_cases a2:no>281474976710656
  ·have:¬(0≤no∧no≤281474976710656):=by omega
   simp[a1,a2,this]
  ·have a3:0≤no∧no≤281474976710656:=by omega
   have hw:IntKind.wrap .i64 (no+1)=no+1:=w64 (by omega) (by omega)
   simp only[a1,a2,a3,hw,decide_false,decide_true,and_self,beq_self_eq_true,cond_true,Option.bind_some,Bool.true_and]
   cases imageOk (b1,b2,b3,b4,b5,b6,b7,b8) with
   |false=>rfl
   |true=>
    cases s with
    |false=>
     by_cases c:t=0
     ·simp[c]
     ·have:(t==0)=false:=by simpa using c
      simp[c,this]
    |true=>
     by_cases c:no<281474976710656
     ·by_cases d:t=no+1
      ·simp[c,d]
      ·have:(t==no+1)=false:=by simpa using d
       simp[c,d,this]
     ·simp[c]
open Classical in
theorem mirSame_eq (no no':Int) (b b':Img) (s s':Bool) (t t':Int) (i i':Img) (h:smallI b) (hi:smallI i):F_mirror_Same (mkM no b s t i,mkM no' b' s' t' i')=some (decide (mkM no b s t i=mkM no' b' s' t' i')):=by
 unfold F_mirror_Same
 have h1:=(paintSame_ref b b').trans (imgSame_eq b b' (by have:=h.1;omega))
 have h2:=(paintSame_ref i i').trans (imgSame_eq i i' (by have:=hi.1;omega))
 have bq:∀{α:Type} [BEq α] [LawfulBEq α] (a b:α),(a==b)=decide (a=b):=fun a b=>by rw[Bool.eq_iff_iff];simp
 have e:∀b:Img,(b.1,b.2.1,b.2.2.1,b.2.2.2.1,b.2.2.2.2.1,b.2.2.2.2.2.1,b.2.2.2.2.2.2.1,b.2.2.2.2.2.2.2)=b:=fun b=>rfl
 have hd:decide (mkM no b s t i=mkM no' b' s' t' i')=decide (no=no'∧b=b'∧s=s'∧t=t'∧i=i'):=by rw[decide_eq_decide];exact mkM_inj
 rw[hd]
 simp only[mkM,e,h1,h2,bq,Option.bind_some]
 by_cases a:no=no'<;>by_cases c:b=b'<;>by_cases d:s=s'<;>by_cases f:t=t'<;>by_cases g:i=i'<;>simp[a,c,d,f,g]
theorem mirSame_ref (a b:Mir):F_batonref34_Same (a,b)=F_mirror_Same (a,b):=rfl
theorem refMir_eq (m:Mir):O_batonlaw34_Ref m=some m:=rfl
def changeM (no:Int) (b:Img) (t:Int) (i:Img):Int×Int×List Int:=(no,t,encDelta (deltaD b i))
theorem change_eq (no:Int) (b:Img) (s:Bool) (t:Int) (i:Img) (hb:imageOk b=true) (hi:imageOk i=true):O_mirror_Mirror_change (mkM no b s t i)=some (changeM no b t i,0):=by
 unfold O_mirror_Mirror_change changeM
 obtain⟨s1,s2⟩:=img_small hb
 obtain⟨s3,s4⟩:=img_small hi
 have hd:=deltaOf_eq b i (by omega) (by omega) (by omega) (by omega)
 rw[if_pos ⟨hb,hi⟩]at hd
 have h4:few4 (deltaD b i):=by have:=(spansOf_ord hb hi).2.2;unfold few4;show (spansOf b i).length≤_;omega
 have hby:=deltaBytes_eq (deltaD b i) (deltaD_few hb hi (by omega)) h4
 rw[if_pos (deltaD_ok hb hi)]at hby
 obtain⟨b1,b2,b3,b4,b5,b6,b7,b8⟩:=b
 simp only[mkM,hd,Option.bind_some,bne_self_eq_false,cond_false,hby]
open Classical in
noncomputable def nextM (no:Int) (b:Img) (s:Bool) (t:Int) (i g:Img):Mir×(Int×Int×List Int)×Int:=
 if imageOk g=true then
  if s=true then (mkM no b s t i,changeM no b t i,0) else if g=b then (mkM no b s t i,(0,0,[]),3) else if no≥281474976710656 then (mkM no b s t i,(0,0,[]),16)
   else (mkM no b true (no+1) g,changeM no b (no+1) g,0)
 else (mkM no b s t i,(0,0,[]),1)
theorem next_eq (no:Int) (b:Img) (s:Bool) (t:Int) (i g:Img) (hg:smallI g) (hok:mirOk no b s t i=true):O_mirror_Next (mkM no b s t i,g)=some (nextM no b s t i g):=by
 unfold O_mirror_Next nextM
 obtain⟨h1,h2⟩:=hg
 have hok':=hok
 unfold mirOk at hok'
 simp only[Bool.and_eq_true,decide_eq_true_eq]at hok'
 obtain⟨⟨hn,hb⟩,hrest⟩:=hok'
 have hpg:=paintRight_eq g (by omega) (by omega)
 have hs:=(paintSame_ref g b).trans (imgSame_eq g b (by omega))
 have e:(b.1,b.2.1,b.2.2.1,b.2.2.2.1,b.2.2.2.2.1,b.2.2.2.2.2.1,b.2.2.2.2.2.2.1,b.2.2.2.2.2.2.2)=b:=rfl
 rw[hpg]
 simp only[Option.bind_some,mkM,e,hs]
 cases hgo:imageOk g with
 |false=>rfl
 |true=>
  simp only[Bool.not_true,cond_false,if_true]
  cases s with
  |true=>
   have hi:imageOk i=true:=by
    simp only[if_true,Bool.and_eq_true]at hrest
    exact hrest.2
   have hch:=change_eq no b true t i hb hi
   unfold mkM at hch
   simp only[cond_true,if_true,Option.bind_some,hch,bne_self_eq_false,cond_false]
  |false=>
   simp only[cond_false,Bool.false_eq_true,if_false]
   by_cases hgb:g=b
   ·simp only[hgb,decide_true,cond_true,if_true]
    rfl
   ·simp only[hgb,decide_false,cond_false,if_false]
    by_cases hmax:no≥281474976710656
    ·simp only[hmax,decide_true,cond_true,if_true]
     rfl
    ·have hw:IntKind.wrap .i64 (no+1)=no+1:=w64 (by omega) (by omega)
     have hch:=change_eq no b true (no+1) g hb hgo
     unfold mkM at hch
     simp only[hmax,decide_false,cond_false,if_false,hw,Option.bind_some,hch,bne_self_eq_false]
theorem few34_eq (no:Int) (b:Img) (s:Bool) (t:Int) (i:Img):F_batonlaw34_few (mkM no b s t i)=some ((decide (b.2.2.1.length≤200)&&decide (b.2.2.2.2.2.2.1.length≤200))&&(decide (i.2.2.1.length≤200)&&decide (i.2.2.2.2.2.2.1.length≤200))):=by
 unfold F_batonlaw34_few mkM
 simp only[few_eq,Option.bind_some]
 cases (decide (b.2.2.1.length≤200)&&decide (b.2.2.2.2.2.2.1.length≤200))<;>rfl
theorem mirOk_small {no:Int} {b:Img} {s:Bool} {t:Int} {i:Img} (h:mirOk no b s t i=true):smallI b∧smallI i:=by
 unfold mirOk at h
 simp only[Bool.and_eq_true,decide_eq_true_eq]at h
 refine⟨img_smallI h.1.2,?_⟩
 cases s with
 |true=>simp only[if_true,Bool.and_eq_true]at h;exact img_smallI h.2.2
 |false=>
  simp only[Bool.false_eq_true,if_false,decide_eq_true_eq]at h
  rw[h.2.2]
  exact⟨by simp[zeroI],by simp[zeroI]⟩
def runesM (m:Mir):Prop:=runesIn m.2.2.2.1∧runesIn m.2.2.2.2.2.2.2.2.2.2.2.2.2.1
theorem nextM_ok {no:Int} {b:Img} {s:Bool} {t:Int} {i g:Img} (h:mirOk no b s t i=true) (hz:(nextM no b s t i g).2.2=0):∃t' i',nextM no b s t i g=(mkM no b true t' i',changeM no b t' i',0)∧mirOk no b true t' i'=true∧imageOk g=true:=by
 unfold nextM at hz ⊢
 split at hz
 ·rename_i hg
  rw[if_pos hg]
  split at hz
  ·rename_i hs
   subst hs
   exact⟨t,i,by rw[if_pos rfl],h,hg⟩
  ·rename_i hs
   rw[if_neg hs]
   split at hz
   ·simp at hz
   ·rename_i hgb
    rw[if_neg hgb]
    split at hz
    ·simp at hz
    ·rename_i hmax
     rw[if_neg hmax]
     refine⟨no+1,g,rfl,?_,hg⟩
     unfold mirOk at h ⊢
     simp only[Bool.and_eq_true,decide_eq_true_eq]at h
     simp only[if_true,Bool.and_eq_true,decide_eq_true_eq,hg,and_true]
     exact⟨⟨h.1.1,h.1.2⟩,by omega⟩
 ·simp at hz
theorem nextM_bad {no:Int} {b:Img} {s:Bool} {t:Int} {i g:Img} (hz:(nextM no b s t i g).2.2≠0):(nextM no b s t i g).1=mkM no b s t i:=by
 unfold nextM at hz ⊢
 split
 ·split
  ·rfl
  ·split
   ·rfl
   ·split
    ·rfl
    ·rename_i h1 h2 h3 h4
     rw[if_pos h1,if_neg h2,if_neg h3,if_neg h4]at hz
     exact(hz rfl).elim
 ·rfl
theorem enc_len_img {b i:Img} (hb:imageOk b=true) (hi:imageOk i=true):(encDelta (deltaD b i)).length<2^60:=by
 have h4:few4 (deltaD b i):=by have:=(spansOf_ord hb hi).2.2;unfold few4;show (spansOf b i).length≤_;omega
 have:=encDelta_len (deltaD_ok hb hi) h4
 omega
end Go.Ideal.Seat
set_option linter.unusedVariables false
set_option linter.unusedSimpArgs false
namespace Go.Ideal.Seat
open Go.Ideal.Plain
theorem mirNew_eq (r c:Int):O_mirror_New (r,c)=some (if sizeOk r c=true then (mkM 0 (blankI r c) false 0 zeroI,0) else (mkM 0 zeroI false 0 zeroI,22)):=by
 unfold O_mirror_New
 rw[blankP_eq]
 cases hs:sizeOk r c<;>rfl
theorem refNewM_eq (r c:Int) (hs:sizeOk r c=true):F_batonref34_New (r,c)=some (mkM 0 (blankI r c) false 0 zeroI):=by
 unfold F_batonref34_New
 rw[refNew_eq r c hs]
 rfl
theorem refBytesOf_eq {b i:Img} (hb:imageOk b=true) (hi:imageOk i=true):((O_batonref18_Of (b,i)).bind fun r=>F_batonref18_Bytes r)=some (encDelta (deltaD b i)):=by
 obtain⟨s1,s2⟩:=img_small hb
 obtain⟨s3,s4⟩:=img_small hi
 have h4:few4 (deltaD b i):=by have:=(spansOf_ord hb hi).2.2;unfold few4;show (spansOf b i).length≤_;omega
 have h:=refBytesD_eq (deltaD b i) (deltaD_ok hb hi) h4
 rw[refOf_eq b i hb hi,←h]
 rfl
theorem refNextM_eq (no:Int) (b:Img) (s:Bool) (t:Int) (i g:Img) (hg:smallI g) (hr:runesIn g.2.2.1) (hok:mirOk no b s t i=true):
 O_batonref34_Next (mkM no b s t i,g)=some ((nextM no b s t i g).1,(nextM no b s t i g).2.1.2.2,(nextM no b s t i g).2.2):=by
 unfold O_batonref34_Next nextM
 obtain⟨h1,h2⟩:=hg
 have hok':=hok
 unfold mirOk at hok'
 simp only[Bool.and_eq_true,decide_eq_true_eq]at hok'
 obtain⟨⟨hn,hb⟩,hrest⟩:=hok'
 have hpg:=refImage_eq g (by omega) (by omega) hr
 have hs:=imgSame_eq g b (by omega)
 have e:∀b:Img,(b.1,b.2.1,b.2.2.1,b.2.2.2.1,b.2.2.2.2.1,b.2.2.2.2.2.1,b.2.2.2.2.2.2.1,b.2.2.2.2.2.2.2)=b:=fun b=>rfl
 rw[hpg]
 simp only[Option.bind_some,mkM,e,hs]
 cases hgo:imageOk g with
 |false=>rfl
 |true=>
  simp only[Bool.not_true,cond_false,if_true]
  cases s with
  |true=>
   have hi:imageOk i=true:=by
    simp only[if_true,Bool.and_eq_true]at hrest
    exact hrest.2
   have hch:=refBytesOf_eq hb hi
   rw[refOf_eq b i hb hi]at hch
   simp only[Option.bind_some]at hch
   simp only[Bool.not_true,cond_false,if_true,Option.bind_some,e,refOf_eq b i hb hi,hch,changeM]
  |false=>
   simp only[Bool.not_false,cond_true,Bool.false_eq_true,if_false]
   by_cases hgb:g=b
   ·simp only[hgb,decide_true,cond_true,if_true]
    rfl
   ·simp only[hgb,decide_false,cond_false,if_false]
    by_cases hmax:no=281474976710656
    ·have:no≥281474976710656:=by omega
     simp only[hmax,beq_self_eq_true,ge_iff_le,Int.le_refl,cond_true,if_true]
     rfl
    ·have h3:¬no≥281474976710656:=by omega
     have h4:(no==281474976710656)=false:=by simpa using hmax
     have hw:IntKind.wrap .i64 (no+1)=no+1:=w64 (by omega) (by omega)
     have hch:=refBytesOf_eq hb hgo
     rw[refOf_eq b g hb hgo]at hch
     simp only[Option.bind_some]at hch
     simp only[h3,h4,cond_false,if_false,hw,Option.bind_some,e,refOf_eq b g hb hgo,hch,changeM]
theorem nextM_bad2 {no:Int} {b:Img} {s:Bool} {t:Int} {i g:Img} (hz:(nextM no b s t i g).2.2≠0):(nextM no b s t i g).2.1=(0,0,[]):=by
 unfold nextM at hz ⊢
 split
 ·split
  ·rename_i h1 h2
   rw[if_pos h1,if_pos h2]at hz
   exact(hz rfl).elim
  ·split
   ·rfl
   ·split
    ·rfl
    ·rename_i h1 h2 h3 h4
     rw[if_pos h1,if_neg h2,if_neg h3,if_neg h4]at hz
     exact(hz rfl).elim
 ·rfl
theorem mirror_next_law (x:Mir×Img×List Int) (hr:runesM x.1) (hrg:runesIn x.2.1.2.2.1) (hl:x.2.2.length=2):F_batonlaw34_MirrorNext x=some true:=by
 obtain⟨m,g,two⟩:=x
 obtain⟨p,q,rfl⟩:∃p q,two=[p,q]:=by
  match two,hl with
  |[p,q],_=>exact⟨p,q,rfl⟩
 have g0:([p,q]:List Int)[0]? = some p:=rfl
 have g1:([p,q]:List Int)[1]? = some q:=rfl
 obtain⟨no,b,s,t,i,rfl⟩:=mkM_all m
 obtain⟨hr1,hr2⟩:=hr
 have hr1:runesIn b.2.2.1:=hr1
 have hr2:runesIn i.2.2.1:=hr2
 have hrg:runesIn g.2.2.1:=hrg
 unfold F_batonlaw34_MirrorNext F_batonlaw34_awake
 simp only[few34_eq,few_eq,Option.bind_some,Bool.not_true,cond_false,refMir_eq]
 cases hfa:((decide (b.2.2.1.length≤200)&&decide (b.2.2.2.2.2.2.1.length≤200))&&(decide (i.2.2.1.length≤200)&&decide (i.2.2.2.2.2.2.1.length≤200))) with
 |false=>rfl
 |true=>
  cases hfg:(decide (g.2.2.1.length≤200)&&decide (g.2.2.2.2.2.2.1.length≤200)) with
  |false=>rfl
  |true=>
   simp only[Bool.and_eq_true,decide_eq_true_eq]at hfa hfg
   have sb:smallI b:=⟨by omega,by omega⟩
   have si:smallI i:=⟨by omega,by omega⟩
   have sg:smallI g:=⟨by omega,by omega⟩
   have sz:smallI zeroI:=⟨by simp[zeroI],by simp[zeroI]⟩
   simp only[Bool.not_true,beq_self_eq_true,cond_true,cond_false,Option.bind_some,g0,g1,mirNew_eq,refSize_eq]
   rcases hs:sizeOk p q with _|_
   case' false=>simp only[Bool.false_eq_true,if_false,cond_false,bne_self_eq_false,Option.bind_some]
   case' true=>
    have sp:smallI (blankI p q):=⟨by have:=(size_mul hs).2.1;unfold blankI grid0;simp;omega,by simp[blankI]⟩
    simp only[if_true,cond_true,bne_self_eq_false,beq_self_eq_true,Option.bind_some,decide_true,refNewM_eq p q hs,mirSame_ref,mirSame_eq 0 0 _ _ false false 0 0 _ _ sp sz,Bool.not_true,cond_false]
   all_goals
    simp only[refMirRight_eq no b s t i sb si hr1 hr2,mirRight_eq no b s t i sb si,Option.bind_some,beq_self_eq_true,Bool.not_true,cond_false]
    cases hok:mirOk no b s t i with
    |false=>rfl
    |true=>
     simp only[Bool.not_true,cond_false,next_eq no b s t i g sg hok,refNextM_eq no b s t i g sg hrg hok,Option.bind_some]
     by_cases hz:(nextM no b s t i g).2.2=0
     ·obtain⟨t1,i1,e1,e2,e3⟩:=nextM_ok hok hz
      rw[e1]
      have hi1:imageOk i1=true:=by unfold mirOk at e2;simp only[if_true,Bool.and_eq_true]at e2;exact e2.2.2
      have hbo:imageOk b=true:=by unfold mirOk at e2;simp only[Bool.and_eq_true]at e2;exact e2.1.2
      have hsm:=mirOk_small e2
      simp only[changeM,bne_self_eq_false,beq_self_eq_true,cond_true,cond_false,mirSame_ref,mirSame_eq no no b b true true t1 t1 i1 i1 hsm.1 hsm.2,decide_true,bytes_same _ _ (enc_len_img hbo hi1),Bool.not_true,Option.bind_some,mirRight_eq no b true t1 i1 hsm.1 hsm.2,e2]
      simp only[mkM,beq_self_eq_true,cond_true]
     ·have hb1:=nextM_bad hz
      have hb2:=nextM_bad2 hz
      have hnz:((nextM no b s t i g).2.2 != 0)=true:=by simpa using hz
      simp only[hb1,hb2,bne_self_eq_false,beq_self_eq_true,cond_true,cond_false,mirSame_ref,mirSame_eq no no b b s s t t i i sb si,decide_true,bytes_same [] [] (by simp),Bool.not_true,Option.bind_some,hnz]
end Go.Ideal.Seat
