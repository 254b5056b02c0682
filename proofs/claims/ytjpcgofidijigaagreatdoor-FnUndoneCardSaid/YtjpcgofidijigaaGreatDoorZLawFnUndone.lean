/- The law FnUndone returns true for all arguments: a definition that is undone leaves the sheet as it was. The listed variables of the library hold what the program's text lays. -/
import Derived.Test.YtjpcgofidijigaaGreatDoorCards
import Derived.Test.YtjpcgofidijigaaGreatDoorTie
import Derived.Test.YtjpcgofidijigaaGreatDoorZRunL
import Derived.Test.YtjpcgofidijigaaGreatDoorZShM
import Derived.Test.YtjpcgofidijigaaGreatDoorZCloseL
import Derived.Stop.LaidErr
import Derived.Lay
set_option maxHeartbeats 8000000
set_option maxRecDepth 100000
namespace Go.Proofs.YtjpcgofidijigaaGreatDoor
open Go.RowKit Go.ChangeShapes
theorem ZrW (u:TypeId) (h:Tryz.prog.typeName? 3 u=some "*errors.errorString"):u=230:=
 typeName_ptr_named (nm:= "errors.errorString") (by rw[show "*" ++ "errors.errorString" = "*errors.errorString" by decide];kernel_rfl) (by kernel_rfl) (by decide) u (by rw[show "*" ++ "errors.errorString" = "*errors.errorString" by decide];exact h)
theorem sent {n:String} {text:List UInt8} {r:List (String×DataW Unit)} {W:World} {g:Nat} (h:laidMet Tryz.prog ((n, .iface "*errors.errorString" (.ptr (.agg [.lit (.string text)])))::r) W)
  (hg:Tryz.prog.globalNamed n=some g) (ht:(Tryz.prog.globals[g]?).map (·.type)=some 110): ∃ tp p,W.var? Tryz.prog n=some #[.iface tp p]:=by
 obtain ⟨a,s,h1, -⟩:=laid_sentinel h hg ht Tryz.underlying110 ZrW Tryz.underlying230 Tryz.underlying232 rfl rfl Tryz.underlying9 (by kernel_rfl) (by kernel_rfl);exact ⟨_,_,h1⟩
end Go.Proofs.YtjpcgofidijigaaGreatDoor
namespace Go.Proofs.YtjpcgofidijigaaGreatDoor.lawFnUndone
open Go.ChangeShapes Go.WideShapes Go.ChangeAt Go.RowKit
theorem ZpS:Tryz.prog.cellsOf 5=1:=by kernel_rfl
theorem table {W:World} (h:laidMetH Tryz.prog Rows.fnUndoneRow.laid W) (hS:W.ShapedOpen Tryz.prog):Env W:=by
 rw[MakeChecks.laidMetH_plain _ _ _ (by kernel_rfl)] at h;have h3:=h.tail.tail;have h6:=h3.tail.tail;have h7:=h6.tail
 exact ⟨Lib.tabIs_of_head (n:=20) (by kernel_rfl:Tryz.prog.globalNamed "internal/strconv.uint64pow10" =some 5) (by kernel_rfl) Tryz.underlying227 Tryz.underlying197 (by kernel_rfl) (by kernel_rfl) h3,
  sent (g:=3) h7 (by kernel_rfl) (by kernel_rfl),sent (g:=4) h6 (by kernel_rfl) (by kernel_rfl),sh_laysM145.s1_3 W hS⟩
theorem Zrd (a:Option Addr) (n cap:Nat) (w:World) (b:Bool) (hb:decide (1048576<n)=b):
  Calls Tryz.prog 4 #[.slice a n cap] w fun e w'=>e= .returned (.bool b)/\w=w':=by
 cases b with
 |true=>have h:=of_decide_eq_true hb;go_enter Tryz.func4,Tryz.ntmps4;go_wp2;go_ret;exact ⟨Zt (by simp;omega),rfl⟩
 |false=>have h:=of_decide_eq_false hb;go_enter Tryz.func4,Tryz.ntmps4;go_wp2;go_ret;exact ⟨Zt (by simp;omega),rfl⟩
theorem walk (a:Option Addr) (n cap:Nat) (bs:List Int) (w:World) (h:RdB w (fun _=>True) a n cap bs) (he:Env w):
  Calls Tryz.prog 3 #[.slice a n cap] w fun e w'=>e= .returned (.bool true)/\Grow w w':=by
 have He:=Lib.hid he;clear he;by_cases hbig:1048576<n
 ·go_enter Tryz.func3,Tryz.ntmps3;go_wp2_with fail;refine (Zrd a n cap _ true (decide_eq_true hbig)).mono ?_;rintro e _ ⟨rfl,rfl⟩;go_wp2;go_ret;exact ⟨rfl,Grow.refl _⟩
 have hbg:=decide_eq_false hbig;go_enter Tryz.func3,Tryz.ntmps3;go_wp2_with fail;refine (Zrd a n cap _ false hbg).mono ?_;rintro e _ ⟨rfl,rfl⟩;clear hbg;go_wp2_with fail;refine (ZkM a n cap bs _ h (by omega)).mono ?_;rintro e w1 ⟨v,line,rfl,hls,D,P,⟨da,dn,dc,pa,pn,pc,rfl,rD,rP⟩,hbD,⟨hbP,hPl⟩,hG1⟩;have hdl:=rD.len;have hpl:=rP.len;obtain ⟨w2,hw2,hG2,bS, -⟩:=al1 w1 #[.slice da dn dc, .slice pa pn pc] 27;obtain ⟨⟨s0,s1⟩, -⟩:=bS.two;have hltS:=bS.lt;rw[hw2] at s0 s1 hltS;have Hw2:=Lib.hid hw2;have hGa:=hG1.trans hG2;clear hw2;go_wp2_with fail;rw[←Hw2.out];clear s0 s1 hltS;refine (Zkb (S:=fun _=>True) (D:=D) (P:=P) ⟨da,dn,dc,pa,pn,pc,rfl,rD.grow hG2,rP.grow hG2⟩ (by omega) (fun p hp=>by have:=hbP p hp;omega) (by omega) (by omega) (He.out.grow hGa)).mono ?_;rintro e w3 ⟨v3,s3,rfl,D3,P3,⟨xa,xn,xc,qa,qn,qc,rfl,rX,rQ⟩,hR,hG3⟩;obtain ⟨w4,hw4,hG4,bX, -⟩:=al1 w3 #[.slice xa xn xc, .slice qa qn qc] 27;have hG24:=hG3.trans hG4;have hGb:=hGa.trans hG24;obtain ⟨⟨s0,s1⟩, -⟩:=(bS.grow hG24).two;have hltS:=(bS.grow hG24).lt;obtain ⟨⟨x0,x1⟩, -⟩:=bX.two;have hltX:=bX.lt;rw[hw4] at s0 s1 hltS x0 x1 hltX;have Hw4:=Lib.hid hw4;clear hw4;by_cases hu:line=⟨#[117,110,100,111]⟩
 ·subst hu;by_cases e:s3=⟨#[111,107]⟩
  ·subst e;clear hR;go_wp2;rw[←Hw4.out];go_ret;exact ⟨rfl,hGb⟩
  ·have q1:(s3.toList==[111,107])=false:=ZbH e;clear hR e;go_wp2;rw[←Hw4.out];go_ret;exact ⟨rfl,hGb⟩
 have q1:(line.toList==[117,110,100,111])=false:=ZbH hu;rcases hR with ⟨hs,rfl,rfl, -⟩|⟨-,hl, -⟩|⟨hs3,hl,rfl,hb3⟩
 ·have q2:(s3.toList==[111,107])=false:=ZbH hs;obtain rfl:qn=pn:=by rw[←rQ.len];exact hpl
  clear hs hu;go_wp2;rw[←Hw4.out];go_ret;exact ⟨rfl,hGb⟩
 ·exact (hu (by rw[←ZeS line,hl];rfl)).elim
 ·obtain rfl:s3=⟨#[111,107]⟩:=hs3;have hll:line.data.toList.length<=400:=by rw[Zde];exact hls
  have Hpp:=Lib.hid (show ∀ p∈P++[D],Zae p<=1048576 from fun p hp=>by
   rcases List.mem_append.1 hp with hp|hp
   ·have:=hbP p hp;omega
   ·rw[List.mem_singleton.1 hp];omega)
  have hppl:(P++[D]).length<=1000:=by simp;omega
  have hG04:=hG2.trans hG24;clear hu hl hbP;go_wp2_with fail;rw[←Hw4.out];clear s0 s1 hltS x0 x1 hltX;refine (Zkb (S:=fun _=>True) (D:=D3) (P:=P++[D]) (line:=⟨#[117,110,100,111]⟩) ⟨xa,xn,xc,qa,qn,qc,rfl,rX.grow hG4,rQ.grow hG4⟩ (by omega) Hpp.out hppl (by decide) (He.out.grow hGb)).mono ?_;rintro e w5 ⟨v5,s5,rfl,D5,P5,hV5,hR5,hG5⟩;obtain ⟨e5,e6,e7⟩:s5=⟨#[111,107]⟩/\D5=D/\P5=P:=by
   rcases hR5 with ⟨-, -, -,h⟩|⟨h1, -,h2⟩|⟨-,h, -⟩
   ·exact absurd (h rfl) (by simp)
   ·obtain ⟨h3,h4⟩:=List.append_inj' h2 rfl;exact ⟨h1,(List.cons.inj h4).1.symm,h3.symm⟩
   ·exact (h rfl).elim
  subst e5;rw[e6,e7] at hV5;obtain ⟨ya,yn,yc,za,zn,zc,rfl,rY,rZ⟩:=hV5;obtain rfl:yn=dn:=by rw[←rY.len];exact hdl
  obtain rfl:zn=pn:=by rw[←rZ.len];exact hpl
  obtain ⟨w6,hw6,hG6,bY, -⟩:=al1 w5 #[.slice ya yn yc, .slice za zn zc] 27;have hG46:=hG5.trans hG6;have bS6:=(bS.grow hG24).grow hG46;have rD6:=(rD.grow hG04).grow hG46;have rY6:=rY.grow hG6;have hGc:=hGb.trans hG46;have Hcl:=Lib.hid (show ∀ d∈D,d.value.cells.length<=2097152 from fun d hd=>by
   have h1:=Zl1 hd;unfold Zae at hbD;unfold bdD at h1;omega)
  have hyn:yn<=1000:=by unfold Zae at hbD;omega
  obtain ⟨⟨s0,s1⟩, -⟩:=bS6.two;have hltS:=bS6.lt;obtain ⟨⟨y0,y1⟩, -⟩:=bY.two;have hltY:=bY.lt;rw[hw6] at s0 s1 hltS y0 y1 hltY;have Hw6:=Lib.hid hw6;clear hw6 hR5 e6 e7 hb3;go_wp2;rw[←Hw6.out];clear s0 s1 hltS y0 y1 hltY;go_loopw [9] (fun i wr=>Grow w6 wr/\ ∃ k:Nat,k<=yn/\i= .int .i64 k) (fun i _=>yn-(intOf i).toNat);case atStart=>exact ⟨Grow.refl _,0,Nat.zero_le _,rfl⟩
  case round=>
   obtain ⟨hG,k,hk,rfl⟩:=hrel;obtain ⟨⟨s0,s1⟩, -⟩:=(bS6.grow hG).two;have hltS:=(bS6.grow hG).lt;by_cases hlt:k<yn
   ·obtain ⟨⟨y0,y1⟩, -⟩:=(bY.grow hG).two;have hltY:=(bY.grow hG).lt;obtain ⟨b1,o1,d,a1,c1,rfl,hd1, -,hb1,A1,R1,k1⟩:=(rD6.grow hG).at hlt;obtain ⟨b2,o2,d2,a2,c2,rfl,hd2, -,hb2,A2,R2,k2⟩:=(rY6.grow hG).at hlt;obtain rfl:d2=d:=(by rw[hd1] at hd2;exact (Option.some.inj hd2).symm);have hcl:=Hcl.out _ (List.mem_of_getElem? hd1);clear hd1 hd2;go_wp2_with fail;have hF:((Zb (ZaU d2)).toList==(Zb (ZaU d2)).toList)=true:=beq_self_eq_true _;generalize hFd:Zb (ZaU d2)=F at hF;have HF:=Lib.hid hFd;clear hFd;refine Zg (S:=Grow wr) [([0,1,2,3,4,6,7,8,9,10],some 5),([],some 11),([12],some 13),([14,15,16,17,18,19,20,21,22,23,24,25,26,27],none)] Zm (by kernel_rfl) (fun _ _ _ _ _ h=>h) (Grow.refl _).drew ?_;show wpQuiet _ _ _ _ [_,_,_,_,_,_,_,_,_,_] _;(repeat (first |(go_big_quiet_want;(first |refine Za Zcq rfl rfl (fun w' hG=>hG.cell y0) ?_|refine Za Zcq rfl rfl (fun w' hG=>hG.cell s0) ?_|refine ZR ZS rfl rfl (fun w' hG=>A1.grow hG) ?_|refine ZR ZS rfl rfl (fun w' hG=>A2.grow hG) ?_|refine Za Zv rfl rfl (fun w' hG=>hG.cell A1.c1) ?_|refine Za Zv rfl rfl (fun w' hG=>hG.cell A2.c1) ?_);go_big_quiet_on;simp only[putP])|go_big_quiet_step (exact fun _=>rfl)));refine wpQuiet_nil ?_;have hGe:Grow wr wr.drew:=(Grow.refl _).drew;refine Zf rfl (fun K hK=> ?_);go_wp2_with fail;refine (ZeW (S:=fun _=>True) ⟨a2,_,c2,rfl,R2.grow hGe,k2⟩ hcl).mono ?_;rw[HF.out];rintro e w7 ⟨rfl,hG7⟩;have hG8:=hGe.trans hG7;go_wp2_with fail;refine hK _ _ (hG8) ?_;clear hK K;refine wpQuiet_nil ?_;refine Zf rfl (fun K hK=> ?_);go_wp2_with fail;refine (ZeW (S:=fun _=>True) ⟨a1,_,c1,rfl,R1.grow hG8,k1⟩ hcl).mono ?_;rw[HF.out];rintro e w9 ⟨rfl,hG9⟩;have hG10:=hG8.trans hG9;go_wp2_with fail;refine hK _ _ (hG10) ?_;clear hK K;show wpQuiet _ _ _ _ [_] _;(try (conv=>arg 6;simp only[putP]));(repeat (first |(go_big_quiet_want;(first |refine Za Zcq rfl rfl (fun w' hG=>hG.cell y0) ?_|refine Za Zcq rfl rfl (fun w' hG=>hG.cell s0) ?_|refine ZR ZS rfl rfl (fun w' hG=>A1.grow hG) ?_|refine ZR ZS rfl rfl (fun w' hG=>A2.grow hG) ?_|refine Za Zv rfl rfl (fun w' hG=>hG.cell A1.c1) ?_|refine Za Zv rfl rfl (fun w' hG=>hG.cell A2.c1) ?_);go_big_quiet_on;simp only[putP])|go_big_quiet_step (exact fun _=>rfl)));refine wpQuiet_nil ?_;refine Zf rfl (fun K hK=> ?_);go_wp2_with fail;refine hK _ _ (hG10) ?_;clear hK K;show wpQuiet _ _ _ _ [_,_,_,_,_,_,_,_,_,_,_,_,_,_] _;(try (conv=>arg 6;simp only[putP]));(repeat (first |(go_big_quiet_want;(first |refine Za Zcq rfl rfl (fun w' hG=>hG.cell y0) ?_|refine Za Zcq rfl rfl (fun w' hG=>hG.cell s0) ?_|refine ZR ZS rfl rfl (fun w' hG=>A1.grow hG) ?_|refine ZR ZS rfl rfl (fun w' hG=>A2.grow hG) ?_|refine Za Zv rfl rfl (fun w' hG=>hG.cell A1.c1) ?_|refine Za Zv rfl rfl (fun w' hG=>hG.cell A2.c1) ?_);go_big_quiet_on;simp only[putP])|go_big_quiet_step (exact fun _=>rfl)));refine wpQuiet_nil ?_;refine Zk ?_;go_wp2;go_roundw;case rel=>exact ⟨hG.trans hG10,k+1,by omega,by go_num⟩
    case measure=>simp[intOf];omega
   ·obtain rfl:k=yn:=(by omega);go_wp2;go_ret;exact ⟨rfl,hGc.trans hG⟩
theorem contract (H:Type) (enc:TypeId×Value->H) (W:World) (base:Nat) (args:Array Value) (ds gs:List (DataW H)) (before:List MemPlace)
  (hval: ∀ (j:Nat) t v,Tryz.f3.params[j]? =some t->args[j]? =some v->Value.okWide Tryz.prog W .any base t v)
  (hW:DataW.Whole enc Tryz.prog Tryz.f3.params.toList Rows.fnUndoneSpec.vars false W args.toList ds gs before) (hL:laidMetH Tryz.prog Rows.fnUndoneRow.laid W) (hS:W.ShapedOpen Tryz.prog):
  Calls Tryz.prog 3 args W fun e W'=> ∃ v,e= .returned v/\Rows.fnUndoneSpec.post enc Tryz.prog Tryz.f3 false true false false W args v W':=by
 refine Zon Zsu ?_ rfl Tryz.underlying4 rfl ?_ hval hW ?_
 ·exact of_decide_eq_true (by kernel_rfl)
 ·intro ds hds
  match ds,hds with
  |[d0],_=>rfl
 ·intro ps hval0 hA0;clear hval hW;have hval: ∀ (j:Nat) t v,Tryz.f3.params[j]? =some t->args[j]? =some v->Value.okWide Tryz.prog W .any 0 t v:=hval0;have hA:DataW.TrodAll enc Tryz.prog W 0 (fun _=>true) true Tryz.f3.params.toList args.toList ds ps:=hA0;rw[Tryz.params3] at hA hval;obtain ⟨v0,vs0,d0,ds0,p0,q0,hargs,rfl,rfl,h0,r0⟩:=trodAll_cons hA;obtain ⟨rfl,rfl,rfl⟩:=trodAll_nil r0;obtain rfl:args= #[v0]:=by cases args;simp_all
  obtain ⟨x0a,x0n,x0c,x0,rfl,hx0⟩:=ZsO Tryz.underlying22 Tryz.underlying5 ZpS (hval 0 22 v0 rfl rfl) h0;exact walk _ _ _ x0 W hx0 (table hL hS)
theorem Zq3 (os:Os):laidMetH Tryz.prog Rows.fnUndoneRow.laid ((World.laidAll Tryz.prog os Rows.fnUndoneRow.laid).forCall (fun _ _=>0) ⟨#[], #[.slice none 0 0],[]⟩).memory:=
 by rw[MakeChecks.laidMetH_plain _ _ _ (by kernel_rfl)];exact laidMet_laidAll _ (by kernel_rfl) (by kernel_rfl)
theorem reads (os:Os) {H:Type} (enc:TypeId×Value->H): ∃ places,DataW.whole enc Tryz.prog ((World.laidAll Tryz.prog os Rows.fnUndoneRow.laid).forCall (fun _ _=>0) ⟨#[], #[.slice none 0 0],[]⟩).memory Tryz.f3.params.toList Rows.fnUndoneSpec.vars false (#[.slice none 0 0]:Array Value).toList 8=some ([.nil],[],places):=
 ⟨[],by kernel_rfl⟩
theorem lifted (os:Os) (started:os.Started) (H:Type) (enc:TypeId×Value->H) (F:Stop.Interp):
  ReturnsInHanded {} Tryz.checked os 3 .any ((OpenSpec.ofChange Rows.fnUndoneSpec).preRow enc Tryz.prog Tryz.f3 Rows.fnUndoneRow.domain false Rows.fnUndoneRow.laid) (((OpenSpec.ofChange Rows.fnUndoneSpec).at F).post enc Tryz.prog Tryz.f3 false true false false):=by
 obtain ⟨places,hx⟩:=reads os enc
 refine returnsInHanded_of_row (C:=Tryz.checked) (s:=OpenSpec.ofChange Rows.fnUndoneSpec) ZsK started (by kernel_rfl) Tryz.func3
  (witness_row_atRef (enc := enc) (C := Tryz.checked) false (World.laidAll Tryz.prog os Rows.fnUndoneRow.laid) #[.slice none 0 0] (World.laidAll_os _ _ _) (by kernel_rfl) (by kernel_rfl) (by kernel_rfl)
   (OpenSpec.preRow_of_cond 8 hx (by kernel_rfl) (fun k hk=>by cases hk) (by kernel_rfl) (Zq3 os))) ?_
 intro W base args ds gs before hval hW _ _ _ hL hS _;exact contract H enc W base args ds gs before hval hW hL hS
theorem said:Rows.FnUndoneSaid:=
 OpenClaim.holds_of_cond 3 Tryz.f3 rfl rfl rfl rfl rfl rfl rfl ⟨rfl,rfl,rfl,rfl,rfl⟩ rfl rfl rfl rfl rfl (by kernel_rfl) Tryz.func3 (by kernel_rfl)
  (of_decide_eq_true (by kernel_rfl)) (by unfold Func.isWrapper;first |(rw[if_pos (by decide+kernel)];kernel_rfl)|(rw[if_neg (by decide+kernel)];exact ⟨rfl,rfl⟩))
  (fun os started H enc _ F=>by rw[OpenClaim.pre_eq_preRow];exact lifted os started H enc F)
theorem plain (f:FuncId) (fn:Func) (hf:Tryz.pinned.checked.prog.funcNamed Tryz.f3.name=some f) (hfn:Tryz.pinned.checked.prog.funcs[f]? =some fn):
  true=Tryz.pinned.checked.prog.looks []/\ ∀ (j:Nat) t,fn.params[j]? =some t->Tryz.pinned.checked.prog.wantsStandIn t=false:=by
 obtain rfl:f=3:=Option.some.inj ((show Tryz.prog.funcNamed Tryz.f3.name=some 3 by kernel_rfl).symm.trans hf) |>.symm;obtain rfl:fn=Tryz.f3:=(Option.some.inj (Tryz.func3.symm.trans hfn)).symm;refine ⟨by kernel_rfl,fun j t ht=> ?_⟩;rw[Tryz.params3] at ht;have hm:t∈[22]:=by simpa using Array.mem_of_getElem? ht
 have hall:([22].all fun u=> !Tryz.prog.wantsStandIn u)=true:=by kernel_rfl
 exact (show Tryz.prog.wantsStandIn t=false by simpa using List.all_eq_true.1 hall t hm)
theorem proved:Rows.FnUndoneCardSaid:=
 Claim7.holds_tied_plain_at .later [] _ _ _ _ said (fun _ h=>by cases h) (by kernel_rfl) (fun _ h=>by cases h) fnUndone_row_tie rfl ⟨rfl,rfl⟩ (by kernel_rfl) rfl plain (by kernel_rfl)
end Go.Proofs.YtjpcgofidijigaaGreatDoor.lawFnUndone
