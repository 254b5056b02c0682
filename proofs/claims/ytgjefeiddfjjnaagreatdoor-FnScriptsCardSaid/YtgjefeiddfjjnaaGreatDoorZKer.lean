/- KernelOf: the program's and the reference's. -/
import Derived.Test.YtgjefeiddfjjnaaGreatDoorZBasI
set_option maxHeartbeats 8000000
set_option maxRecDepth 100000
namespace Go.Proofs.YtgjefeiddfjjnaaGreatDoor
open Go.RowKit
open Lib (hid)
open Go.Value renaming int->Yv
open Go.IntKind renaming i64->Yi
open Grow renaming refl->JH
open List renaming map_cons->JV,mem_cons->JU,mem_of_mem_drop->MB,mem_range'_1->Nr,nil_append->Ka,not_mem_nil->Kl,range->JN,range'->KU,range_eq_range'->Mu
open Go.Proofs.Tryz renaming func220->Qm,func92->Qo,ntmps220->Qn,ntmps92->Qp,prog->JG
variable {C R c n:Nat} {S:Nat->Prop} {a:Option Addr} {cells:List Int} {m:Mat} {mc mr:Int} {s:HS} {v:Value} {w:World}
def Zjj (s:HS) (C R:Nat):Mat:={rows:=((R-Z7 s.1 C R:Nat):Int),cols:=(R:Int),cells:=s.2.drop (Z7 s.1 C R*R)}
def Zdh (m:Mat):Bool:=match ZbS m with
 |some s=>ZdI (Zjj s m.cols.toNat m.rows.toNat)
 |none=>false
def Zcv (m:Mat):Mat:=match ZbS m with
 |some s=>Zdr (Zjj s m.cols.toNat m.rows.toNat)
 |none=>{rows:=0,cols:=0,cells:=[]}
theorem ZgA (h:ZbS m=none):Zdh m=false/\Zcv m={rows:=0,cols:=0,cells:=[]}:=by
 unfold Zdh Zcv;rw[h];exact Je
theorem Zmu (hB:Zd {rows:=(R:Int),cols:=(C:Int),cells:=cells}=true) (h:ZbP cells R C=some s):
  Zdh {rows:=(R:Int),cols:=(C:Int),cells:=cells}=ZdI (Zjj s C R)/\Zcv {rows:=(R:Int),cols:=(C:Int),cells:=cells}=Zdr (Zjj s C R):=by
 have a:=Zeo hB;rw[h] at a;unfold Zdh Zcv;rw[a];exact Je
theorem Zrf {m:List Int} {t:Nat} (h:Ech C R m C t) (ht:t<=R):((JN R).filter fun i=> !nzB m C i)=KU t (R-t):=by
 have e:JN R=JN t++KU t (R-t):=by rw[Mu,Mu];have:=List.range'_append (s:=0) (m:=t) (n:=R-t) (step:=1);simp at this;rw[this];congr 1;omega
 rw[e,List.filter_append];have d:((JN t).filter fun i=> !nzB m C i)=[]:=List.filter_eq_nil_iff.2 fun i b a=>by rw[Zet.2 (h.full i (List.mem_range.1 b))] at a;cases a
 have f:((KU t (R-t)).filter fun i=> !nzB m C i)=KU t (R-t):=List.filter_eq_self.2 fun i b=>by
  rw[Nr] at b;cases a:nzB m C i with
  |false=>rfl
  |true=>obtain ⟨k,g,c⟩:=Zet.1 a;exact (c (h.zero i I I k g)).elim
 rw[d,f,Ka]
theorem ZlY {m:List Int} {C:Nat}: ∀ {n t:Nat},m.length=(t+n)*C->((KU t n).map (Zag m C)).flatten=m.drop (t*C)
 |0,t,h=>by rw[Nat.add_zero] at h;simp[←h]
 |n+1,t,h=>by rw[List.range'_succ,JV,List.flatten_cons,ZlY (by rw[h];congr 1;omega)];unfold Zag;rw[Nat.add_mul,Nat.one_mul, ←List.drop_drop,List.take_append_drop]
theorem Zsn (hl:cells.length=R*C) (hm:NumL cells) (h:ZbP cells R C=some s):
  ((JN R).filter fun i=> !nzB s.1 C i)=KU (Z7 s.1 C R) (R-Z7 s.1 C R)/\((KU (Z7 s.1 C R) (R-Z7 s.1 C R)).map (Zag s.2 R)).flatten=s.2.drop (Z7 s.1 C R*R):=by
 obtain ⟨c,t,a,b⟩:=Zcj hl hm h;have e:=Zj2 b R (Nat.le_refl _) a;rw[e];exact ⟨Zrf b a,ZlY (by rw[c.lu];congr 1;omega)⟩
theorem Zqo (hVM:VM w S (.agg #[Yv Yi mr,Yv Yi mc, .slice a n c]) m) (hb:bdM m<=1048576) (hB:Zd m=false):
  Calls JG 220 #[.agg #[Yv Yi mr,Yv Yi mc, .slice a n c]] w fun e w'=> ∃ r,e= .returned (.tuple #[r, .bool (Zdh m)])/\OM w' (New w w') r (Zcv m)/\Grow w w':=by
 have Hz:=hid (ZgA (m:=m) CF);obtain ⟨f,b,hG, -,bR, -⟩:=al2 w #[Yv Yi mr,Yv Yi mc, .slice a n c] 37 #[Yv Yi 0,Yv Yi 0, .slice none 0 0] 37;have d:=hid b;clear b;go_enter Qm,Qn;go_wp2_with fail;rw[←d.out];refine (Zg3 (hVM.grow hG) hb hB).mono ?_;rintro e w4 ⟨rfl,hG4⟩;exact FJ
theorem Zo8 (h:RdI w S a n c cells) (hl:cells.length=R*C) (hnum:NumL cells) (hR:R<=24) (hC:C<=24):
  Calls JG 220 #[.agg #[Yv Yi R,Yv Yi C, .slice a n c]] w fun e w'=> ∃ r,e= .returned (.tuple #[r, .bool (Zdh {rows:=(R:Int),cols:=(C:Int),cells:=cells})])/\OM w' (New w w') r (Zcv {rows:=(R:Int),cols:=(C:Int),cells:=cells})/\Grow w w':=by
 have hB:=Zay hR hC hl hnum;obtain ⟨V,k⟩: ∃ V:Int,V=R:=⟨_,rfl⟩;obtain ⟨W,o⟩: ∃ W:Int,W=C:=⟨_,rfl⟩;have p:=fun s=>Zmu (s:=s) hB;have v:=fun hn:ZbP cells R C=none=>ZgA (m:={rows:=(R:Int),cols:=(C:Int),cells:=cells}) Ez;have X:=hid p;have Y:=hid v;clear p v hB;generalize hM:({rows:=(R:Int),cols:=(C:Int),cells:=cells}:Mat)=M at *;clear hM;rw[←k, ←o];obtain ⟨w3,y,hG, -,bR, -⟩:=al2 w #[Yv Yi V,Yv Yi W, .slice a n c] 37 #[Yv Yi 0,Yv Yi 0, .slice none 0 0] 37;have Z:=hid y;clear y;subst k;subst o;go_enter Qm,Qn;go_wp2_with fail;rw[←Z.out];refine (Zja (h.grow hG) hl hnum hR hC).mono ?_;rintro e w4 ⟨hG4,(⟨hn,rfl⟩|⟨s,aa,ca,au,cu,P,rfl,rA,rU⟩)⟩
 ·have Hz:=hid (Y.out hn);clear hn;exact FJ
 ·have Hy:=hid (X.out s P);have b:=(Zcj hl hnum P).1;have aq:Z7 s.1 C R<=R:=Ze6 _ _ _;obtain ⟨z,ab⟩:=Zsn hl hnum P;have hltR:w.heap.size+1<w4.heap.size:=(bR.grow hG4).lt;obtain ⟨w5,i,hG5,bH,bV, -⟩:=al2 w4 #[Yv Yi (R:Int),Yv Yi (C:Int), .slice aa (R*C) ca] 37 #[Yv Yi (R:Int),Yv Yi (R:Int), .slice au (R*R) cu] 37;obtain ⟨⟨a0,a1,a2⟩, -⟩:=bH.three;rw[i] at a0 a1 a2;have ad:=hid i;clear i;have ae:=rA.grow hG5;have af:=rU.grow hG5;have bR5:=(bR.grow hG4).grow hG5;clear rA rU P;go_wp2_with fail;rw[←ad.out];refine (ZjO aa _ ca C R s.1 _ ae b.la hR hC).mono ?_;rintro e w6 ⟨ar,ag,n1,f,c1,c2,rfl,hP,d⟩;rw[z] at hP;have A:Zjj s C R={rows:=((R-Z7 s.1 C R:Nat):Int),cols:=(R:Int),cells:=s.2.drop (Z7 s.1 C R*R)}:=rfl;rw[A] at Hy;clear A;generalize Z7 s.1 C R=t at *;have rI:=hP.ou.rdI (S:=fun _=>True) (fun _ _=>trivial) (ZnI (l:=KU t (R-t)) (fun x B=>by rw[Nr] at B;omega));have D:=hid (show f=R-t by have:=rI.len;unfold Ze5 at this;simpa using this.symm);have ah:=bV.grow d;obtain ⟨⟨a0,a1,a2⟩, -⟩:=ah.three;have ai:=af.grow d;have E:=bR5.grow d;have F:=((hG.trans hG4).trans hG5).trans d;clear hP z;have an:w.heap.size+1<w6.heap.size:=E.lt;go_wp2_with fail;refine (ZkT au ag _ cu f c2 R R s.2 (KU t (R-t)) _ ai b.lu hR hR rI (fun x B=>by rw[Nr] at B;omega) Ψ).mono ?_;rintro e w7 ⟨a',c',rfl,G,ao,j⟩;rw[ab] at G;rw[←D.out] at Hy;have ap:f<=24:=by have:=D.out;omega
  have av:R*R<=24*24:=Nat.mul_le_mul hR hR;have aj:NumL (s.2.drop (t*R)):=fun x B=>b.nu x (MB B);have vK:VM w7 (fun _=>True) (.agg #[Yv Yi (f:Int),Yv Yi (R:Int), .slice a' (f*R) c']) {rows:=(f:Int),cols:=(R:Int),cells:=s.2.drop (t*R)}:=
   ⟨a',_,c',rfl,G.rdI (fun _ _=>trivial) (Zp aj),by show I64 (f:Int);unfold I64;omega,δ⟩
  go_wp2_with fail;refine (ZqK vK (by unfold bdM;simp only[List.length_drop];rw[b.lu];omega)).mono ?_;rintro e w8 ⟨r,rfl,H,J⟩;obtain ⟨ra,rn,rc,rfl,oR,rR,fR,i1,i2⟩:=H;generalize ak:Zdr {rows:=(f:Int),cols:=(R:Int),cells:=s.2.drop (t*R)}=T at *;clear ak;have L:=(E.grow j).grow J;have aw:=j.size;have ax:=F.size;obtain ⟨⟨b0,b1,b2⟩,f0,f1,f2⟩:=L.three;have N:Keep (fun q=>q≠w.heap.size+1) w8 (((w8.setCell ⟨w.heap.size+1,0,none⟩ (Yv Yi T.rows)).setCell ⟨w.heap.size+1,1,none⟩ (Yv Yi T.cols)).setCell ⟨w.heap.size+1,2,none⟩ (.slice ra rn rc)):=
   kS
  have O:=oR.keep N (fun g hg _ e=>Cw);have al:=((L.set 0 (Yv Yi T.rows)).set 1 (Yv Yi T.cols)).set 2 (.slice ra rn rc);have am:=((F.trans j).trans J).keep N fun q hq=>I
  go_wp2;refine Zb Zc rfl rfl rfl al ⟨_,EV,by rw[Hy.out.2];exact ⟨ra,rn,rc,rfl,O,rR,fun g hg=>⟨Cw,O.lt hg⟩,i1,i2⟩,am⟩
theorem ZoZ (h:VM w S v m) (hb:bdM m<=1048576):
  Calls JG 220 #[v] w fun e w'=> ∃ r,e= .returned (.tuple #[r, .bool (Zdh m)])/\OM w' (New w w') r (Zcv m)/\Grow w w':=by
 have g:=h;obtain ⟨a,n,c,rfl,h,p,q⟩:=h;cases j:Zd m with
 |false=>exact Zqo g hb j
 |true=>obtain ⟨R,C,d,f,l,o,k,b⟩:=Zl j;obtain ⟨s,t,i⟩:=m;simp only at d f k b;subst d;subst f;exact Zo8 h k b l o
def KerPost (z N:Nat) (L:List Int) (x y:Int) (BM:Mat) (bo:Bool):Nat->Value->World->Prop
 |6,u,w=> ∃ g,u= .slice (some ⟨g,0,none⟩) 0 0/\Own w 3 1 (some ⟨g,0,none⟩) 0 0 []
 |14,u,w=> ∃ g c,u= .slice (some ⟨g,0,none⟩) N c/\Own w 3 1 (some ⟨g,0,none⟩) N c (ints L)
 |15,u,w=> ∃ g c,u= .agg #[Yv Yi x,Yv Yi y, .slice (some ⟨g,0,none⟩) N c]/\Own w 3 1 (some ⟨g,0,none⟩) N c (ints L)
 |16,u,w=> ∃ r,u= .tuple #[r, .bool bo]/\OM w (fun g=>z<=g) r BM
 |17,u,w=> ∃ r,u= .tuple #[r, .bool bo]/\OM w (fun g=>z<=g) r BM
 |18,u,w=>OM w (fun g=>z<=g) u BM
 |19,u,_=>u= .bool bo
 |20,u,w=> ∃ g,u= .pointer (some ⟨g,0,none⟩)/\z<=g/\Blk w g #[Yv Yi 0,Yv Yi 0, .slice none 0 0] 37
 |_,_,_=>True
theorem KerPost.stays {z N:Nat} {L:List Int} {x y:Int} {BM:Mat} {bo:Bool}: ∀ i u w w',Grow w w'->KerPost z N L x y BM bo i u w->KerPost z N L x y BM bo i u w':=fun i u w w' hG h=>by
 unfold KerPost at *;split at h
 ·obtain ⟨g,h1,h2⟩:=h;exact ⟨g,h1,h2.grow hG⟩
 ·obtain ⟨g,c,h1,h2⟩:=h;exact ⟨g,c,h1,h2.grow hG⟩
 ·obtain ⟨g,c,h1,h2⟩:=h;exact ⟨g,c,h1,h2.grow hG⟩
 ·exact GJ
 ·exact GJ
 ·exact h.grow hG
 ·exact h
 ·exact Gy
 ·trivial
theorem Zqe {P:Program} {o:Oper} {a:Act} {K:Act->World->Prop} {Q:Exit->Act->World->Prop} {t:TypeId} {x y z:Operand} {u s:Value} (ho:o.op= .build t #[(0,x),(1,y),(2,z)]) (hx:a.eval x=u) (hy:a.eval y=v) (hz:a.eval z=s)
  (hb:P.built t [(0,u),(1,v),(2,s)]=some #[u,v,s]) (h:K (a.put o.dst (.agg #[u,v,s])) w):o.wp P a w K Q:=
 wp_build t _ ho (by simp[hx,hy,hz,hb]) (by simpa [hx,hy,hz,hb] using h)
theorem ZsT (u v:Int) (a:Option Addr) (n c:Nat):JG.built 37 [(0,Yv Yi u),(1,Yv Yi v),(2, .slice a n c)]=some #[Yv Yi u,Yv Yi v, .slice a n c]:=DN
theorem Zqx (hVM:VM w S (.agg #[Yv Yi mr,Yv Yi mc, .slice a n c]) m) (hb:bdM m<=1048576) (hB:Zd m=false):
  Calls JG 92 #[.agg #[Yv Yi mr,Yv Yi mc, .slice a n c]] w fun e w'=> ∃ r,e= .returned (.tuple #[r, .bool (Zdh m)])/\OM w' (New w w') r (Zcv m)/\Grow w w':=by
 have Hz:=hid (ZgA (m:=m) CF);obtain ⟨f,b,hG,g,bR, -⟩:=al2 w #[Yv Yi mr,Yv Yi mc, .slice a n c] 37 #[Yv Yi 0,Yv Yi 0, .slice none 0 0] 37;have d:=hid b;clear b;go_enter Qo,Qp;go_wp2_with fail;rw[←d.out];refine (ZgQ (hVM.grow hG) hb hB).mono ?_;rintro e w4 ⟨rfl,hG4⟩;exact FJ
theorem Zo6 (h:RdI w S a n c cells) (hl:cells.length=R*C) (hnum:NumL cells) (hR:R<=24) (hC:C<=24):
  Calls JG 92 #[.agg #[Yv Yi R,Yv Yi C, .slice a n c]] w fun e w'=> ∃ r,e= .returned (.tuple #[r, .bool (Zdh {rows:=(R:Int),cols:=(C:Int),cells:=cells})])/\OM w' (New w w') r (Zcv {rows:=(R:Int),cols:=(C:Int),cells:=cells})/\Grow w w':=by
 have hB:=Zay hR hC hl hnum;obtain ⟨mr,ae⟩: ∃ mr:Int,mr=R:=⟨_,rfl⟩;obtain ⟨mc,af⟩: ∃ mc:Int,mc=C:=⟨_,rfl⟩;have ag:=fun s=>Zmu (s:=s) hB;have ah:=fun hn:ZbP cells R C=none=>ZgA (m:={rows:=(R:Int),cols:=(C:Int),cells:=cells}) Ez;have a4:=hid ag;have a5:=hid ah;clear ag ah hB;generalize hM:({rows:=(R:Int),cols:=(C:Int),cells:=cells}:Mat)=M at *;clear hM;rw[←ae, ←af];obtain ⟨w3,ai,hG,bM,bR, -⟩:=al2 w #[Yv Yi mr,Yv Yi mc, .slice a n c] 37 #[Yv Yi 0,Yv Yi 0, .slice none 0 0] 37;have a6:=hid ai;clear ai;subst ae;subst af;go_enter Qo,Qp;go_wp2_with fail;rw[←a6.out];refine (Zf9 (h.grow hG) hl hnum hR hC).mono ?_;rintro e w4 ⟨hG4,(⟨hn,rfl⟩|⟨s,aa,ca,au,cu,hs,rfl,rA,rU⟩)⟩
 ·have Hz:=hid (a5.out hn);clear hn;exact FJ
 ·have Hy:=hid (a4.out s hs);have J:=(Zcj hl hnum hs).1;have a7:Z7 s.1 C R<=R:=Ze6 _ _ _;have hltR:w.heap.size+1<w4.heap.size:=(bR.grow hG4).lt;obtain ⟨w5,O,hG5,bH,bV, -⟩:=al2 w4 #[Yv Yi (R:Int),Yv Yi (C:Int), .slice aa (R*C) ca] 37 #[Yv Yi (R:Int),Yv Yi (R:Int), .slice au (R*R) cu] 37;obtain ⟨⟨a0,a1,a2⟩, -⟩:=bH.three;rw[O] at a0 a1 a2;have a8:=hid O;clear O;have a9:=rA.grow hG5;have ba:=rU.grow hG5;have bR5:=(bR.grow hG4).grow hG5;clear rA rU hs;go_wp2_with fail;rw[←a8.out];refine (Zme aa _ ca C R s.1 _ a9 J.la hR hC).mono ?_;rintro e F ⟨rfl,v⟩;have aj:Zjj s C R={rows:=((R-Z7 s.1 C R:Nat):Int),cols:=(R:Int),cells:=s.2.drop (Z7 s.1 C R*R)}:=rfl;rw[aj] at Hy;clear aj;generalize Z7 s.1 C R=t at *;have bb:=bV.grow v;have bc:=((bM.grow hG4).grow hG5).grow v;obtain ⟨⟨v0,v1,v2⟩, -⟩:=bb.three;obtain ⟨⟨m0,m1,m2⟩, -⟩:=bc.three;have ak:=ba.grow v;have al:=bR5.grow v;have am:=((hG.trans hG4).trans hG5).trans v;have bv:R*R<=24*24:=Nat.mul_le_mul hR hR;have an:t*R<=R*R:=Nat.mul_le_mul_right _ a7;have bw:=ak.row.le;have u1:=Z6 (i:=t) (c:=R) I I;have r1:=T_ints.atL (a:=au) (n:=R*R) (cap:=cu) (l:=t*R) (i:=(t:Int)*R) Θ I;have rs:=ak.sub (l:=t*R) (k:=R*R) an (Nat.le_refl _);have bd:=J.lu;have ao:(s.2.drop (t*R)).take (R*R-t*R)=s.2.drop (t*R):=List.take_of_length_le Ψ;rw[ao] at rs;have be:NumL (s.2.drop (t*R)):=fun x hx=>J.nu x (MB hx);generalize bf:R-t=A at *;generalize ap:Zdr {rows:=(A:Int),cols:=(R:Int),cells:=s.2.drop (t*R)}=j at *;generalize aq:ZdI {rows:=(A:Int),cols:=(R:Int),cells:=s.2.drop (t*R)}=bo at *;have bs:(s.2.drop (t*R)).length=R*R-t*R:=Ψ
  generalize s.2.drop (t*R)=L at *;generalize hN:R*R-t*R=N at *;have G:((R:Int)-(t:Int))=(A:Int):=I
  have bg:A<=24:=I
  have bh:=hid ap;have bi:=hid aq;have ar:=hid G;have bx:N<=576:=I
  have bz:=am.size;have bt:w.heap.size+1<F.heap.size:=al.lt;clear ap aq ao hN G bd bf a0 a1 a2;go_wp2;refine Zai (S:=Grow F) (T:=fun _=>True) [0,1,2,3,4,5,7,8,9,10,11,12,13] [6,14,15,16,20] [17,18,19] [([],some 21),([22],none)] ZaB Ξ (fun _ _ _ _ _ h=>h) (JH _).drew ?_;refine Zh ?_;refine ⟨Ξ,KerPost F.heap.size N L (A:Int) (R:Int) j bo,fun _ _=>none,KerPost.stays,(fun _ _ _ _ _ h=>Ω),(fun _ _ _=>rfl), ?_, ?_, ?_⟩
  ·intro i hi o D B p av d f E K hK;have aw:=d.size;simp only[JU,Kl,or_false] at hi;rcases hi with rfl|rfl|rfl|rfl|rfl
   ·obtain rfl:=oI D;refine Zh4 rfl T_ints ?_;exact hK _ _ ((JH _).alloc _ _) (d.alloc _ _) ⟨_,rfl,Own.freshAt rfl Γ rfl⟩ (fun _ h=>Ω)
   ·obtain rfl:=oI D;obtain ⟨g,e,hE⟩: ∃ g,B.tmps.getD 28 undef= .slice (some ⟨g,0,none⟩) 0 0/\Own p 3 1 (some ⟨g,0,none⟩) 0 0 []:=f 6 Φ ⟨⟨6, .data⟩,Θ,rfl,rfl⟩ 28 rfl;have P:B.eval (.tmp 35)= .slice (Zds au cu (t*R) 1) N (cu-t*R):=E 35 Φ;by_cases V:N=0
    ·have bj:L=[]:=List.eq_nil_of_length_eq_zero I;rw[V] at P;refine Zpe (s:= .tmp 28) (x:= .tmp 35) rfl T_ints e P ?_;exact hK _ _ (JH _) d ⟨g,0,by rw[V],by rw[V,bj];exact hE⟩ (fun _ h=>Ω)
    ·refine Zvi (s:= .tmp 28) (x:= .tmp 35) rfl T_ints e (Row.emptyAt (S:=fun _=>True)) P (rs.grow d).row I I Γ ?_;intro c' w8 h1 h2;rw[Nat.zero_add] at h1 ⊢;exact hK _ _ h2 (d.trans h2) ⟨_,c',rfl,h1⟩ (fun _ h=>Ω)
   ·obtain rfl:=oI D;obtain ⟨g,c,e,hE⟩: ∃ g c,B.tmps.getD 36 undef= .slice (some ⟨g,0,none⟩) N c/\Own p 3 1 (some ⟨g,0,none⟩) N c (ints L):=f 14 Φ ⟨⟨14, .data⟩,Θ,rfl,rfl⟩ 36 rfl;have bk:B.eval (.tmp 25)=Yv Yi (A:Int):=(by rw[←ar.out];exact E 25 Φ);refine Zqe (x:= .tmp 25) (y:= .tmp 27) (z:= .tmp 36) rfl bk (E 27 Φ) e (ZsT _ _ _ _ _) ?_;exact hK _ _ (JH _) d ⟨g,c,rfl,hE⟩ (fun _ h=>Ω)
   ·obtain rfl:=oI D;obtain ⟨g,c,e,hE⟩: ∃ g c,B.tmps.getD 37 undef= .agg #[Yv Yi (A:Int),Yv Yi (R:Int), .slice (some ⟨g,0,none⟩) N c]/\Own p 3 1 (some ⟨g,0,none⟩) N c (ints L):=f 15 Φ ⟨⟨15, .data⟩,Θ,rfl,rfl⟩ 37 rfl;refine Zdx (x:= .tmp 37) rfl Tryz.func148 rfl rfl e ?_;have vK:VM p (fun _=>True) (.agg #[Yv Yi (A:Int),Yv Yi (R:Int), .slice (some ⟨g,0,none⟩) N c]) {rows:=(A:Int),cols:=(R:Int),cells:=L}:=
     ⟨_,_,c,rfl,hE.rdI (fun _ _=>trivial) (Zp be),by show I64 (A:Int);unfold I64;omega,δ⟩
    refine (Zq3 vK Al).mono ?_;rintro e w8 ⟨r,rfl,hO,ax⟩;rw[bh.out] at hO;rw[bi.out];exact ⟨_,rfl,hK _ w8 ax (d.trans ax) ⟨r,rfl,hO.weak fun b _ hb=>Nat.le_trans aw hb.1⟩ (fun _ h=>Ω)⟩
   ·obtain rfl:=oI D;refine Zbu (z:= .agg #[Yv Yi 0,Yv Yi 0, .slice none 0 0]) rfl DN ?_;exact hK _ _ ((JH _).alloc _ _) (d.alloc _ _) ⟨p.heap.size,rfl,aw,Blk.new _ _ _⟩ (fun _ h=>Ω)
  ·intro i hi o D B p av d f E;simp only[JU,Kl,or_false] at hi;rcases hi with rfl|rfl|rfl
   ·obtain rfl:=oI D;have d3: ∃ r,B.tmps.getD 38 undef= .tuple #[r, .bool bo]/\OM p (fun g=>F.heap.size<=g) r j:=f 16 Φ ⟨⟨16, .data⟩,Θ,rfl,rfl⟩ 38 rfl;exact ⟨B.tmps.getD 38 undef,fun _ _=>rfl,d3⟩
   ·obtain rfl:=oI D;obtain ⟨r,e4,hO⟩: ∃ r,B.tmps.getD 21 undef= .tuple #[r, .bool bo]/\OM p (fun g=>F.heap.size<=g) r j:=f 17 Φ ⟨⟨17, .data⟩,Θ,rfl,rfl⟩ 21 rfl;exact ⟨r,fun w' _=>ZP (x:= .tmp 21) rfl e4 rfl w',hO⟩
   ·obtain rfl:=oI D;obtain ⟨r,e4,hO⟩: ∃ r,B.tmps.getD 21 undef= .tuple #[r, .bool bo]/\OM p (fun g=>F.heap.size<=g) r j:=f 17 Φ ⟨⟨17, .data⟩,Θ,rfl,rfl⟩ 21 rfl;exact ⟨.bool bo,fun w' _=>ZP (x:= .tmp 21) rfl e4 rfl w',rfl⟩
  ·intro W p av d hP _;apply ZbU
   ·show _=([some 28,some 36,some 37,some 38,some 8,some 21,some 39,some 40]:List (Option Tmp))
    kernel_rfl
   simp only[Zdm,List.cons_append,Ka,JV,List.map_nil,List.zip_cons_cons,List.zip_nil_right,Act.put,List.setIfInBounds_toArray,List.set_cons_succ,List.set_cons_zero];refine ⟨?_⟩;have p5:OM p (fun g=>F.heap.size<=g) (W 18) j:=hP 18 Φ;have p6:W 19= .bool bo:=hP 19 Φ;obtain ⟨g,p7,b3,X⟩: ∃ g,W 20= .pointer (some ⟨g,0,none⟩)/\F.heap.size<=g/\Blk p g #[Yv Yi 0,Yv Yi 0, .slice none 0 0] 37:=hP 20 Φ;obtain ⟨Y,Z,rc,e5,oR,rR,fR,i1,i2⟩:=p5;have bl:=oR.ne_blk X Φ;rw[e5,p6,p7];clear hP e5 p6 p7;show wpQuiet _ _ _ _ [] _;apply wpQuiet_nil;apply Zu rfl;intro K hK;obtain ⟨⟨z0,z1,z2⟩,g0,g1,g2⟩:=X.three;go_wp2_with fail;have ab:Keep (fun q=>q≠g) p (((p.setCell ⟨g,0,none⟩ (Yv Yi j.rows)).setCell ⟨g,1,none⟩ (Yv Yi j.cols)).setCell ⟨g,2,none⟩ (.slice Y Z rc)):=
    kS
   have bm:Blk (((p.setCell ⟨g,0,none⟩ (Yv Yi j.rows)).setCell ⟨g,1,none⟩ (Yv Yi j.cols)).setCell ⟨g,2,none⟩ (.slice Y Z rc)) g #[Yv Yi j.rows,Yv Yi j.cols, .slice Y Z rc] 37:=((X.set 0 _).set 1 _).set 2 _;have ad:=d.keep ab fun q H=>I;have bn:=oR.keep ab fun q H _ e=>bl (e▸H);refine hK _ _ ad ?_;clear hK K;generalize bp:(((p.setCell ⟨g,0,none⟩ (Yv Yi j.rows)).setCell ⟨g,1,none⟩ (Yv Yi j.cols)).setCell ⟨g,2,none⟩ (.slice Y Z rc))=w8 at *;clear bp ab z0 z1 z2 g0 g1 g2;refine Zh ?_;refine Ze ?_;have ay:=al.grow ad;obtain ⟨⟨b0,b1,b2⟩,f0,f1,f2⟩:=ay.three;obtain ⟨⟨z0,z1,z2⟩, -⟩:=bm.three;have az:Keep (fun q=>q≠w.heap.size+1) w8 (((w8.setCell ⟨w.heap.size+1,0,none⟩ (Yv Yi j.rows)).setCell ⟨w.heap.size+1,1,none⟩ (Yv Yi j.cols)).setCell ⟨w.heap.size+1,2,none⟩ (.slice Y Z rc)):=
    kS
   have a3:=bn.keep az (fun q H _ e=>by have:=fR q H;omega);have bq:=((ay.set 0 (Yv Yi j.rows)).set 1 (Yv Yi j.cols)).set 2 (.slice Y Z rc);have br:=(am.trans ad).keep az fun q H=>I;go_wp2;refine Zb Zc rfl rfl rfl bq ⟨_,EV,by rw[Hy.out.2];exact ⟨Y,Z,rc,rfl,a3,rR,fun q H=>⟨by have:=fR q H;omega,a3.lt H⟩,i1,i2⟩,br⟩
theorem Zpf (h:VM w S v m) (hb:bdM m<=1048576):
  Calls JG 92 #[v] w fun e w'=> ∃ r,e= .returned (.tuple #[r, .bool (Zdh m)])/\OM w' (New w w') r (Zcv m)/\Grow w w':=by
 have g:=h;obtain ⟨a,n,c,rfl,h,p,q⟩:=h;cases j:Zd m with
 |false=>exact Zqx g hb j
 |true=>obtain ⟨R,C,d,f,l,o,k,b⟩:=Zl j;obtain ⟨s,t,i⟩:=m;simp only at d f k b;subst d;subst f;exact Zo6 h k b l o

end Go.Proofs.YtgjefeiddfjjnaaGreatDoor
