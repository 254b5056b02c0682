/- Definitions as text: the program's and the reference's FormatDef. -/
import Derived.Test.YtjpcgofidijigaaGreatDoorZFmtJ
import Derived.Lib.SplitLaws
set_option maxHeartbeats 8000000
set_option maxRecDepth 100000
namespace Go.Proofs.YtjpcgofidijigaaGreatDoor
open Go.RowKit
open Lib (hid)
variable {L s:List UInt8} {P:Program} {d:Dfn} {g:Nat} {ty:TypeId} {v:Value} {w:World}
def ZaU (d:Dfn):List UInt8:=if Zac d=true then d.name.data.toList++(32::(if d.op=0 then ZaL d.value else opw d.op++(32::(d.a.data.toList++(if d.b.toList.isEmpty=true then [] else 32::d.b.data.toList))))) else []
theorem ZhJ (h:Zac d=false):ZaU d=[]:=by unfold ZaU;rw[h];rfl
theorem ZeS (s:ByteArray):Zb s.data.toList=s:=by apply ByteArray.ext;show (s.data.toList).toArray=s.data;simp
theorem ZgW (s:ByteArray) (l:List UInt8):s++Zb l=Zb (s.data.toList++l):=by rw[←Zq,ZeS]
theorem ZlL (h:Zac d=true) (h0:d.op=0):d.name++⟨#[32]⟩++Zb (ZaL d.value)=Zb (ZaU d):=by
 show d.name++Zb [32]++Zb (ZaL d.value)=_;rw[ZgW,Zq];unfold ZaU;rw[if_pos h,if_pos h0];simp
theorem Zly (h:Zac d=true) (h0:d.op≠0) (hb:d.b.toList.isEmpty=true):d.name++⟨#[32]⟩++Zb (opw d.op)++⟨#[32]⟩++d.a=Zb (ZaU d):=by
 show d.name++Zb [32]++Zb (opw d.op)++Zb [32]++d.a=_;rw[←ZeS d.a,ZgW,Zq,Zq,Zq];unfold ZaU;rw[if_pos h,if_neg h0,if_pos hb];simp
theorem ZiS (h:Zac d=true) (h0:d.op≠0) (hb:d.b.toList.isEmpty=false):d.name++⟨#[32]⟩++Zb (opw d.op)++⟨#[32]⟩++d.a++⟨#[32]⟩++d.b=Zb (ZaU d):=by
 show d.name++Zb [32]++Zb (opw d.op)++Zb [32]++d.a++Zb [32]++d.b=_;rw[←ZeS d.a, ←ZeS d.b,ZgW,Zq,Zq,Zq,Zq,Zq];unfold ZaU;rw[if_pos h,if_neg h0,if_neg (by rw[hb];simp)];simp
theorem Zdx {s:ByteArray} (h:Zax s=true):s.size<=6:=((Zb0 s).1 h).2.2
theorem Zgo {s:ByteArray} (h:s.toList.isEmpty=true):s.size=0:=by rw[Zq2] at h;simpa using h
theorem Zgi (h:Zac d=true):d.name.size<=6/\d.a.size<=6/\d.b.size<=6/\0<=d.op/\d.op<=9:=by
 unfold Zac at h;simp only[Bool.and_eq_true,decide_eq_true_eq] at h;obtain ⟨h1,⟨h2,h3⟩,h4⟩:=h;refine ⟨Zdx h1, ?_, ?_,h2,h3⟩
 ·split at h4
  ·simp only[Bool.and_eq_true] at h4;have:=Zgo h4.1;omega
  ·split at h4
   ·simp only[Bool.and_eq_true] at h4;exact Zdx h4.1
   ·simp only[Bool.and_eq_true] at h4;exact Zdx h4.1
 ·split at h4
  ·simp only[Bool.and_eq_true] at h4;have:=Zgo h4.2.1;omega
  ·split at h4
   ·simp only[Bool.and_eq_true] at h4;exact Zdx h4.2.1
   ·simp only[Bool.and_eq_true] at h4;have:=Zgo h4.2.1;omega
theorem StT.loadAtF {cs:List Value} (h:StT P ty cs.length) {o:Nat} (hc: ∀ j v,cs[j]? =some v->w.cell? ⟨g,o+j,none⟩=some v):(loadVar ty ⟨g,o,none⟩).run P w= .ok (.agg cs.toArray) w:=by
 obtain ⟨fs,hu,hi⟩:=h;have hl:(loadCells ⟨g,o,none⟩ cs.length).run P w= .ok cs.toArray w:=
  run_loadCells_list (P:=P) w ⟨g,o,none⟩ cs (fun j v hv=>by rw[show (⟨g,o,none⟩:Addr).add j=⟨g,o+j,none⟩ by unfold Addr.add;split<;>simp_all];exact hc j v hv)
 cases hq:P.info? ty with
 |none=>simp[hq] at hi
 |some i=>
  have hs:i.size=cs.length:=by simpa [hq] using hi
  have hagg:(isAgg ty).run P w= .ok true w:=by unfold isAgg;rw[Sem.run_bind,run_underlying hu w];simp
  simp[loadVar,Sem.run_bind,hagg,sizeOf,typeInfo,hq,hs,hl]
theorem Zds {C:World->Prop} {o:Oper} {a:Act} {K:Act->Prop} {x:Operand} {f:Nat} {u z:Value} (hty:StT P ty 3) (ho:o.op= .load ty x) (hx:a.eval x= .pointer (some ⟨g,f,none⟩))
  (hv: ∀ w',C w'->w'.cell? ⟨g,f,none⟩=some u/\w'.cell? ⟨g,f+1,none⟩=some v/\w'.cell? ⟨g,f+2,none⟩=some z) (hk:K (a.put o.dst (.agg #[u,v,z]))):o.quiet P a C K:=by
 refine ⟨.agg #[u,v,z],fun w hw=> ?_,hk⟩;obtain ⟨h0,h1,h2⟩:=hv w hw;have h:=StT.loadAtF (cs:=[u,v,z]) hty (w:=w) (g:=g) (o:=f) (fun j c hj=>by
  match j,hj with
  |0,hj=>simp at hj;subst hj;exact h0
  |1,hj=>simp at hj;subst hj;exact h1
  |2,hj=>simp at hj;subst hj;exact h2)
 unfold Oper.quietAt execOp;simp[ho,hx,Instr.loadAt,Instr.sureAddr,h,Oper.quietUpon]
theorem ZO:CellT Tryz.prog 9:=CellT.string Tryz.underlying9
theorem ZbD {S:Nat->Prop} (h:VD w S v d) (hb:d.value.cells.length<=2097152) (ht:Tab w):
  Calls Tryz.prog 35 #[v] w fun e w'=>e= .returned (.string (Zb (ZaU d)))/\Grow w w':=by
 have hVD:=h;obtain ⟨a,n,c,rfl,h,ho⟩:=h;obtain ⟨o1,o2,o3,o4,o5,o6⟩:=ho;have hG1:=(Grow.refl w).alloc #[.string d.name, .int .i64 d.op, .string d.a, .string d.b, .int .i64 d.value.rows, .int .i64 d.value.cols, .slice a n c] 36;have bM:=Blk.new w #[.string d.name, .int .i64 d.op, .string d.a, .string d.b, .int .i64 d.value.rows, .int .i64 d.value.cols, .slice a n c] 36;have Ht:=hid ht;clear ht;obtain ⟨⟨m0,m1,m2,m3,m4,m5,m6⟩, -⟩:=bM.seven;unfold I64 at o2;cases hok:Zac d with
 |false=>have Hz:=hid (ZhJ hok);go_enter Tryz.func35,Tryz.ntmps35;go_wp2_with fail;refine (ZfB (hVD.grow hG1) hb).mono ?_;rw[hok];rintro e w2 ⟨rfl,hG2⟩;clear hok;go_wp2;go_ret;exact ⟨by rw[Hz.out];rfl,hG1.trans hG2⟩
 |true=>
  obtain ⟨r1,r2,r3,r4,r5⟩:=Zgi hok;have Hok:=hid hok;go_enter Tryz.func35,Tryz.ntmps35;go_wp2_with fail;refine (ZfB (hVD.grow hG1) hb).mono ?_;rw[hok];rintro e w2 ⟨rfl,hG2⟩;have bM2:=bM.grow hG2;have hG12:=hG1.trans hG2;clear hok m0 m1 m2 m3 m4 m5 m6;obtain ⟨⟨m0,m1,m2,m3,m4,m5,m6⟩, -⟩:=bM2.seven;by_cases h0:d.op=0
  ·have q0:(d.op==0)=true:=(by simp[h0]);have Hf:=hid (ZlL Hok.out h0);have hfl:=Zcv d.value;clear h0;go_wp2;refine Zg (S:=Grow w2) [([0,1,2,3,4],some 5),([6,7],none)] Zm (by kernel_rfl) (fun _ _ _ _ _ h=>h) (Grow.refl _).drew ?_;show wpQuiet _ _ _ _ [_,_,_,_,_] _;(repeat (first |(go_big_quiet_want;(first |refine Za ZO rfl rfl (fun w' hG=>hG.cell m0) ?_|refine Zds Zc rfl rfl (fun w' hG=>⟨hG.cell m4,hG.cell m5,hG.cell m6⟩) ?_);go_big_quiet_on;simp only[putP])|go_big_quiet_step (exact fun _=>rfl)));refine wpQuiet_nil ?_;refine Zf rfl (fun K hK=> ?_);go_wp2_with fail;refine (Zca (m:=d.value) (S:=S) ⟨a,n,c,rfl,(h.grow hG12).grow (Grow.refl w2).drew,o5,o6⟩ hb (Ht.out.grow hG12.drew)).mono ?_;rintro e w3 ⟨rfl,hG3⟩;have hGa:=(Grow.refl w2).drew.trans hG3;go_wp2_with fail;refine hK _ _ (hGa) ?_;clear hK K;show wpQuiet _ _ _ _ [_,_] _;(try (conv=>arg 6;simp only[putP]));(repeat (first |(go_big_quiet_want;(first |refine Za ZO rfl rfl (fun w' hG=>hG.cell m0) ?_|refine Zds Zc rfl rfl (fun w' hG=>⟨hG.cell m4,hG.cell m5,hG.cell m6⟩) ?_);go_big_quiet_on;simp only[putP])|go_big_quiet_step (exact fun _=>rfl)));refine wpQuiet_nil ?_;refine Zk ?_;go_wp2;go_ret;exact ⟨by rw[←Hf.out];rfl,hG12.trans hGa⟩
  ·have q0:(d.op==0)=false:=(by simp[h0]);have hol:=ZjR d.op;cases hbe:d.b.toList.isEmpty with
   |true=>have Hf:=hid (Zly Hok.out h0 hbe);clear h0;go_wp2;refine Zg (S:=Grow w2) [([0,1,2,3,4,8,9],some 5),([6,7,10,11],none)] Zm (by kernel_rfl) (fun _ _ _ _ _ h=>h) (Grow.refl _).drew ?_;show wpQuiet _ _ _ _ [_,_,_,_,_,_,_] _;(repeat (first |(go_big_quiet_want;(first |refine Za ZO rfl rfl (fun w' hG=>hG.cell m0) ?_|refine Za Zv rfl rfl (fun w' hG=>hG.cell m1) ?_|refine Za ZO rfl rfl (fun w' hG=>hG.cell m2) ?_);go_big_quiet_on;simp only[putP])|go_big_quiet_step (exact fun _=>rfl)));refine wpQuiet_nil ?_;refine Zf rfl (fun K hK=> ?_);go_wp2_with fail;refine (ZgJ d.op _ ⟨r4,r5⟩).mono ?_;rintro e w3 ⟨rfl,hG3⟩;have hGa:=(Grow.refl w2).drew.trans hG3;go_wp2_with fail;refine hK _ _ (hGa) ?_;clear hK K;show wpQuiet _ _ _ _ [_,_,_,_] _;(try (conv=>arg 6;simp only[putP]));(repeat (first |(go_big_quiet_want;(first |refine Za ZO rfl rfl (fun w' hG=>hG.cell m0) ?_|refine Za Zv rfl rfl (fun w' hG=>hG.cell m1) ?_|refine Za ZO rfl rfl (fun w' hG=>hG.cell m2) ?_);go_big_quiet_on;simp only[putP])|go_big_quiet_step (exact fun _=>rfl)));refine wpQuiet_nil ?_;refine Zk ?_;go_wp2;go_ret;exact ⟨by rw[←Hf.out];rfl,hG12.trans hGa⟩
   |false=>have Hf:=hid (ZiS Hok.out h0 hbe);clear h0;go_wp2;refine Zg (S:=Grow w2) [([0,1,2,3,4,8,9,12,13],some 5),([6,7,10,11,14,15],none)] Zm (by kernel_rfl) (fun _ _ _ _ _ h=>h) (Grow.refl _).drew ?_;show wpQuiet _ _ _ _ [_,_,_,_,_,_,_,_,_] _;(repeat (first |(go_big_quiet_want;(first |refine Za ZO rfl rfl (fun w' hG=>hG.cell m0) ?_|refine Za Zv rfl rfl (fun w' hG=>hG.cell m1) ?_|refine Za ZO rfl rfl (fun w' hG=>hG.cell m2) ?_|refine Za ZO rfl rfl (fun w' hG=>hG.cell m3) ?_);go_big_quiet_on;simp only[putP])|go_big_quiet_step (exact fun _=>rfl)));refine wpQuiet_nil ?_;refine Zf rfl (fun K hK=> ?_);go_wp2_with fail;refine (ZgJ d.op _ ⟨r4,r5⟩).mono ?_;rintro e w3 ⟨rfl,hG3⟩;have hGa:=(Grow.refl w2).drew.trans hG3;go_wp2_with fail;refine hK _ _ (hGa) ?_;clear hK K;show wpQuiet _ _ _ _ [_,_,_,_,_,_] _;(try (conv=>arg 6;simp only[putP]));(repeat (first |(go_big_quiet_want;(first |refine Za ZO rfl rfl (fun w' hG=>hG.cell m0) ?_|refine Za Zv rfl rfl (fun w' hG=>hG.cell m1) ?_|refine Za ZO rfl rfl (fun w' hG=>hG.cell m2) ?_|refine Za ZO rfl rfl (fun w' hG=>hG.cell m3) ?_);go_big_quiet_on;simp only[putP])|go_big_quiet_step (exact fun _=>rfl)));refine wpQuiet_nil ?_;refine Zk ?_;go_wp2;go_ret;exact ⟨by rw[←Hf.out];rfl,hG12.trans hGa⟩
def sp (c:UInt8):Bool:=c==32
def ZhV:List (List UInt8)->List UInt8
 |[]=>[]
 |[x]=>x
 |x::y::r=>x++32::ZhV (y::r)
theorem ZnQ (x:List UInt8) {r:List (List UInt8)} (h:r≠[]):ZhV (x::r)=x++32::ZhV r:=by
 cases r with
 |nil=>exact absurd rfl h
 |cons y r=>rfl
theorem Zgd: ∀ (l cur:List UInt8),ZhV (Zp sp cur l)=cur++l
 |[],cur=>by simp[Zp,ZhV]
 |c::r,cur=>by
  unfold Zp;split
  ·rename_i h;have:c=32:=(by simpa [sp] using h);subst this;have hne:Zp sp [] r≠[]:=fun e=>(by have:=(Zb5 sp r []).2;rw[e] at this;simp at this);rw[ZnQ _ hne,Zgd r []];simp
  ·rw[Zgd r (cur++[c])];simp
def ZaZ (x:List UInt8):Nat->Int
 |0=>0
 |n+1=>if x=opw ((n:Int)+1) then (n:Int)+1 else ZaZ x n
theorem Zix (x:List UInt8): ∀ n,0<=ZaZ x n/\ZaZ x n<=n
 |0=>by simp[ZaZ]
 |n+1=>by unfold ZaZ;have:=Zix x n;split<;>omega
theorem Zkv {x:List UInt8}: ∀ {n:Nat},ZaZ x n≠0->x=opw (ZaZ x n)
 |0,h=>by simp[ZaZ] at h
 |n+1,h=>by
  unfold ZaZ at h ⊢;split
  ·assumption
  ·rename_i hx;rw[if_neg hx] at h;exact Zkv h
def headD (s:List UInt8):List UInt8:=s.takeWhile fun c=> !sp c
def Zav (s:List UInt8):List UInt8:=s.drop ((headD s).length+1)
def Zaz (s:List UInt8):Bool:=s.any sp
theorem Zhs (h:Zaz s=true):s=headD s++32::Zav s:=by
 induction s with
 |nil=>simp[Zaz] at h
 |cons c s ih=>
  by_cases hc:sp c=true
  ·have:c=32:=(by simpa [sp] using hc);subst this;simp[headD,Zav,sp]
  ·have hs:Zaz s=true:=(by unfold Zaz at h ⊢;simpa [hc] using h);have e:headD (c::s)=c::headD s:=(by unfold headD;simp[hc]);unfold Zav;rw[e];have:=ih hs;unfold Zav at this;simpa using this
def Zad (s:List UInt8):List (List UInt8):=Zp sp [] (Zav s)
def Zbz (s:List UInt8):Dfn:=match ZaD (Zav s) with
 |some m=>⟨Zb (headD s),0,⟨#[]⟩,⟨#[]⟩,m⟩
 |none=>⟨Zb (headD s),ZaZ ((Zad s).getD 0 []) 9,Zb ((Zad s).getD 1 []),Zb ((Zad s).getD 2 []),zeroP⟩
def ZaQ (s:List UInt8):Option Dfn:=if Zaz s=true/\ZaU (Zbz s)=s then some (Zbz s) else none
theorem Znb (h:Zaz s=true) (e:ZaU d=s):Zac d=true:=by
 cases hd:Zac d with
 |true=>rfl
 |false=>rw[ZhJ hd] at e;subst e;simp[Zaz] at h
theorem Zpo (h:ZaQ s=some d):Zac d=true/\ZaU d=s/\Zaz s=true/\Zbz s=d:=by
 unfold ZaQ at h;split at h
 ·rename_i hh;obtain rfl:=Option.some.inj h;exact ⟨Znb hh.1 hh.2,hh.2,hh.1,rfl⟩
 ·cases h
theorem Zjg (h:Zaz s=true) (hf:ZaU (Zbz s)=s) (hp:ZaD (Zav s)=none):
  ZaZ ((Zad s).getD 0 []) 9≠0/\2<=(Zad s).length/\(Zad s).length<=3:=by
 have hd:=Znb h hf;have hs:=Zhs h;have hj:=Zgd (Zav s) [];rw[List.nil_append] at hj;have hw:Zad s=Zp sp [] (Zav s):=rfl;rw[←hw] at hj;have hc:Zbz s=⟨Zb (headD s),ZaZ ((Zad s).getD 0 []) 9,Zb ((Zad s).getD 1 []),Zb ((Zad s).getD 2 []),zeroP⟩:=by unfold Zbz;rw[hp]
 rw[hc] at hd hf;have hdf:=hd;unfold ZaU at hf;rw[if_pos hd] at hf;simp only at hf;have hcut: ∀ {x:List UInt8},headD s++32::x=s->x=Zav s:=fun {x} e=>by have e2:headD s++32::x=headD s++32::Zav s:=e.trans hs;exact (List.cons.inj (List.append_cancel_left e2)).2
 by_cases h0:ZaZ ((Zad s).getD 0 []) 9=0
 ·exfalso;rw[if_pos h0] at hf;have:=hcut hf;rw[←this] at hp;rw[Zcu.2 ⟨(by rfl:Ze zeroP=true),rfl⟩] at hp;cases hp
 ·refine ⟨h0, ?_⟩;rw[if_neg h0, ←Zkv h0] at hf;have hrest:=hcut hf;rw[←hj] at hrest;unfold Zac at hd;rw[Bool.and_eq_true,Bool.and_eq_true] at hd;have hd2:=hd.2.2;simp only at hd2;rw[if_neg h0] at hd2;have hA:Zax (Zb ((Zad s).getD 1 []))=true:=by
   split at hd2
   ·rw[Bool.and_eq_true] at hd2;exact hd2.1
   ·rw[Bool.and_eq_true] at hd2;exact hd2.1
  have hA1:(Zad s).getD 1 []≠[]:=fun e=>by have:=((Zb0 _).1 hA).2.1;rw[e] at this;have h0:(Zb []).size=0:=rfl;omega
  match hww:Zad s,hA1,hrest with
  |[],hA1,_=>simp at hA1
  |[x],hA1,_=>simp at hA1
  |[x,y],_,_=>simp
  |[x,y,z],_,_=>simp
  |x::y::z::t::r,_,hrest=>exfalso;have:=congrArg List.length hrest;simp only[List.getD_cons_zero,List.getD_cons_succ,ZhV,List.length_append,List.length_cons] at this;have hz:(if (Zb z).toList.isEmpty=true then ([]:List UInt8) else 32::z).length<=z.length+1:=(by split<;>simp);omega
theorem ZnZ (l:List UInt8):(Zb l).toList.isEmpty=l.isEmpty:=by
 rw[toList_data]
def Zby (s:List UInt8):Dfn:=(ZaQ s).getD Ze3
def ZbW (s:List UInt8):Bool:=(ZaQ s).isSome
theorem Zjc {m:Dfn} (h:ZaQ s=some m):Zby s=m/\ZbW s=true:=by unfold Zby ZbW;rw[h];exact ⟨rfl,rfl⟩
theorem Zea (h:ZaQ s=none):Zby s=Ze3/\ZbW s=false:=by unfold Zby ZbW;rw[h];exact ⟨rfl,rfl⟩
theorem ZkY {l:List UInt8} (h: ∀ x∈l,sp x=false): ∀ x∈l,x≠32:=fun x hx e=>by
 have:=h x hx;rw[e] at this;cases this
theorem Zgk: ∀ (L:List UInt8), ∀ x∈headD L,sp x=false
 |[],x,hx=>by simp[headD] at hx
 |c::L,x,hx=>by
  unfold headD at hx;rw[List.takeWhile_cons] at hx;split at hx
  ·rename_i hc;rcases List.mem_cons.1 hx with rfl|hx
   ·simpa using hc
   ·exact Zgk L x hx
  ·simp at hx
theorem Zru (h:Zaz L=true):Lib.cut L [32]=(headD L,Zav L,true):=by
 have h1:=Zhs h;have h2:=ZlN (r:=Zav L) (ZkY (Zgk L));rw[←h1] at h2;exact h2
theorem ZnE (h:Zaz L=false):Lib.cut L [32]=(L,[],false):=by
 refine Zsr (ZkY fun x hx=> ?_);unfold Zaz at h;rw[List.any_eq_false] at h;have:=h x hx;simpa using this
theorem Zki: ∀ (n:Nat) (L:List UInt8),L.length<=n->Lib.splitK [32] 0 (Lib.count L [32]) L=Zp sp [] L/\Lib.count L [32]+1=(Zp sp [] L).length
 |n,L,hn=>by
  cases h:Zaz L with
  |false=>have hne: ∀ x∈L,x≠32:=ZkY fun x hx=>(by unfold Zaz at h;rw[List.any_eq_false] at h;have:=h x hx;simpa using this);rw[ZgV (fun x hx=>by unfold Zaz at h;rw[List.any_eq_false] at h;have:=h x hx;simpa using this),Lib.count_miss (ZgD hne)];exact ⟨rfl,rfl⟩
  |true=>
   have h1:=Zhs h;have h2:=Zge (r:=Zav L) (ZkY (Zgk L));rw[←h1] at h2;have hl:=congrArg List.length h1;simp only[List.length_append,List.length_cons] at hl;have hc:=Lib.count_hit (by simp) h2;have hd:L.drop ((headD L).length+[(32:UInt8)].length)=Zav L:=rfl;rw[hd] at hc;have hp:=ZcY (p:=sp) (c:=32) (r:=Zav L) (by rfl) (cur:=[]) (Zgk L);rw[←h1,List.nil_append] at hp;cases n with
   |zero=>omega
   |succ n=>obtain ⟨i1,i2⟩:=Zki n (Zav L) (by omega);rw[hp,hc,Nat.add_comm 1,List.length_cons, ←i2, ←i1];refine ⟨?_,rfl⟩;rw[Lib.splitK,h2,if_neg (by simp),Int.toNat_natCast,hd,Nat.add_zero];congr 1;have e:List.take (headD L).length (headD L++32::Zav L)=headD L:=(by simp);rw[←h1] at e;exact e
theorem Ze8 (L:List UInt8):Lib.splitB (Zb [32]) 0 (Lib.countB (Zb L) (Zb [32])) (Zb L)=(Zp sp [] L).map Zb/\Lib.countB (Zb L) (Zb [32])+1=(Zp sp [] L).length:=by
 obtain ⟨h1,h2⟩:=Zki L.length L (Nat.le_refl _);refine ⟨?_,h2⟩;have h:=Lib.splitB_data (Zb [32]) 0 (Lib.countB (Zb L) (Zb [32])) (Zb L);have e:Lib.splitK (Zb [32]).data.toList 0 (Lib.countB (Zb L) (Zb [32])) (Zb L).data.toList=Zp sp [] L:=h1;rw[e] at h;rw[←h,List.map_map];exact (List.map_id' _).symm.trans (List.map_congr_left fun x _=>rfl)
theorem Zqe:ZaD []=none:=Zps fun m hm e=>by
 have:=Zcv m;rw[Zis hm] at e;have h:=congrArg List.length e;simp at h
theorem Zq7:ZaZ [] 9=0:=by decide+kernel
def nmI (L:List UInt8):List UInt8:=(Lib.cut L [32]).1
def rsI (L:List UInt8):List UInt8:=(Lib.cut L [32]).2.1
theorem ZgS (h:Zaz L=true):nmI L=headD L/\rsI L=Zav L:=by unfold nmI rsI;rw[Zru h];exact ⟨rfl,rfl⟩
theorem Zlj (h:Zaz L=false):rsI L=[]:=by unfold rsI;rw[ZnE h]
theorem ZpB {M:Mat} (h:ZaD (rsI L)=some M):Zaz L=true/\Zbz L=⟨Zb (nmI L),0,⟨#[]⟩,⟨#[]⟩,M⟩:=by
 cases hs:Zaz L with
 |false=>rw[Zlj hs,Zqe] at h;cases h
 |true=>rw[(ZgS hs).2] at h;refine ⟨rfl, ?_⟩;unfold Zbz;rw[h,(ZgS hs).1]
theorem Zqn (h:ZaD (rsI L)=none) (ho:ZaZ ((Zp sp [] (rsI L)).getD 0 []) 9≠0):
  Zaz L=true/\Zbz L=⟨Zb (nmI L),ZaZ ((Zp sp [] (rsI L)).getD 0 []) 9,Zb ((Zp sp [] (rsI L)).getD 1 []),Zb ((Zp sp [] (rsI L)).getD 2 []),zeroP⟩:=by
 cases hs:Zaz L with
 |false=>rw[Zlj hs] at ho;exact absurd Zq7 ho
 |true=>rw[(ZgS hs).2] at h ⊢;refine ⟨rfl, ?_⟩;unfold Zbz Zad;rw[h,(ZgS hs).1]
theorem ZsE (h:ZaD (rsI L)=none) (hb:ZaZ ((Zp sp [] (rsI L)).getD 0 []) 9=0\/(Zp sp [] (rsI L)).length<2\/3<(Zp sp [] (rsI L)).length):ZaQ L=none:=by
 unfold ZaQ;rw[if_neg];rintro ⟨hs,hf⟩;rw[(ZgS hs).2] at h hb;have:=Zjg hs hf h;unfold Zad at this;omega
theorem Znl {F:List UInt8} (hs:Zaz L=true) (e:F=L) (hq:F.isEmpty=true):False:=by
 subst e;cases F with
 |nil=>simp[Zaz] at hs
 |cons a l=>cases hq

end Go.Proofs.YtjpcgofidijigaaGreatDoor
