/- The law FnScripts returns true for all arguments: a script answers every line, and what it shows is what the sheet that it leaves makes of the name. The listed variables of the library hold what the program's text lays. -/
import Derived.Test.YtgjefeiddfjjnaaGreatDoorZLawWalk
import Derived.Test.YtgjefeiddfjjnaaGreatDoorCards
import Derived.Test.YtgjefeiddfjjnaaGreatDoorTie
import Derived.Test.YtgjefeiddfjjnaaGreatDoorZShT
import Derived.Test.YtgjefeiddfjjnaaGreatDoorZEvR
import Derived.Test.YtgjefeiddfjjnaaGreatDoorZShM
import Derived.Test.YtgjefeiddfjjnaaGreatDoorZCloseL
import Derived.Stop.LaidErr
import Derived.Lay
set_option maxHeartbeats 8000000
set_option maxRecDepth 100000
namespace Go.Proofs.YtgjefeiddfjjnaaGreatDoor.lawFnScripts
open Go.ChangeShapes Go.WideShapes Go.ChangeAt Go.RowKit
open Lib renaming hid->KD
open List renaming count_le_length->QX,length_take->Le
open Nat renaming lt_of_lt_of_le->Lj,zero_le->JI
open Go.Proofs.Tryz renaming checked->O7,f3->MR,func3->MQ,func5->QU,ntmps3->QW,ntmps5->QV,params3->QY,prog->JG
open World renaming laidAll->O6
open Go.Proofs.Tryz
theorem contract (H:Type) (enc:TypeId×Value->H) (W:World) (base:Nat) (args:Array Value) (ds gs:List (DataW H)) (before:List MemPlace)
  (hval: ∀ (j:Nat) t v,MR.params[j]? =some t->args[j]? =some v->Value.okWide JG W .any base t v)
  (hW:DataW.Whole enc JG MR.params.toList Rows.fnScriptsSpec.vars false W args.toList ds gs before) (hL:laidMetH JG Rows.fnScriptsRow.laid W) (hS:W.ShapedOpen JG):
  Calls JG 3 args W fun e W'=> ∃ v,e= .returned v/\Rows.fnScriptsSpec.post enc JG MR false true false false W args v W':=by
 refine Zr1 ZvT ?_ rfl underlying4 rfl ?_ hval hW ?_
 ·exact of_decide_eq_true Ξ
 ·intro ds b
  match ds,b with
  |[i],_=>rfl
 ·intro k a c;clear hval hW;have hval: ∀ (j:Nat) t v,MR.params[j]? =some t->args[j]? =some v->Value.okWide JG W .any 0 t v:=a;have g:DataW.TrodAll enc JG W 0 (fun _=>true) true MR.params.toList args.toList ds k:=c;rw[QY] at g hval;obtain ⟨h,l,i,m,w,x,d,rfl,rfl,n,o⟩:=trodAll_cons g;obtain ⟨rfl,rfl,rfl⟩:=trodAll_nil o;obtain rfl:args= #[h]:=by cases args;simp_all
  obtain ⟨p,q,r,s,rfl,f⟩:=Zwi underlying22 underlying5 Zs9 (hval 0 22 h rfl rfl) n;exact walk _ _ _ s W f (table hL hS)
theorem Zs4 (os:Os):laidMetH JG Rows.fnScriptsRow.laid ((O6 JG os Rows.fnScriptsRow.laid).forCall (fun _ _=>0) ⟨#[], #[.slice none 0 0],[]⟩).memory:=
 by rw[MakeChecks.laidMetH_plain _ _ _ Ξ];exact laidMet_laidAll _ Ξ Ξ
theorem reads (os:Os) {H:Type} (enc:TypeId×Value->H): ∃ places,DataW.whole enc JG ((O6 JG os Rows.fnScriptsRow.laid).forCall (fun _ _=>0) ⟨#[], #[.slice none 0 0],[]⟩).memory MR.params.toList Rows.fnScriptsSpec.vars false (#[.slice none 0 0]:Array Value).toList 8=some ([.nil],[],places):=
 ⟨[],Ξ⟩
theorem lifted (os:Os) (started:os.Started) (H:Type) (enc:TypeId×Value->H) (F:Stop.Interp):
  ReturnsInHanded {} O7 os 3 .any ((OpenSpec.ofChange Rows.fnScriptsSpec).preRow enc JG MR Rows.fnScriptsRow.domain false Rows.fnScriptsRow.laid) (((OpenSpec.ofChange Rows.fnScriptsSpec).at F).post enc JG MR false true false false):=by
 obtain ⟨e,f⟩:=reads os enc
 refine returnsInHanded_of_row (C:=O7) (s:=OpenSpec.ofChange Rows.fnScriptsSpec) Zwk started Ξ MQ
  (witness_row_atRef (enc := enc) (C := O7) false (O6 JG os Rows.fnScriptsRow.laid) #[.slice none 0 0] (World.laidAll_os _ _ _) Ξ Ξ Ξ
   (OpenSpec.preRow_of_cond 8 f Ξ (fun k g=>by cases g) Ξ (Zs4 os))) ?_
 intro W b c h i a d j _ _ _ l m _;exact contract H enc W b c h i a d j l m
theorem said:Rows.FnScriptsSaid:=
 OpenClaim.holds_of_cond 3 MR rfl rfl rfl rfl rfl rfl rfl ⟨rfl,rfl,rfl,rfl,rfl⟩ rfl rfl rfl rfl rfl Ξ MQ (by unfold joinedFacts;simp only[Bool.and_eq_true];(repeat' apply And.intro);all_goals (as_aux_lemma=>kernel_rfl))
  (of_decide_eq_true Ξ) (by unfold Func.isWrapper;first |(rw[if_pos Aj];kernel_rfl)|(rw[if_neg Aj];exact ⟨rfl,rfl⟩))
  (fun os started H enc _ F=>by rw[OpenClaim.pre_eq_preRow];exact lifted os started H enc F)
theorem plain (f:FuncId) (fn:Func) (hf:Tryz.pinned.checked.prog.funcNamed MR.name=some f) (hfn:Tryz.pinned.checked.prog.funcs[f]? =some fn):
  true=Tryz.pinned.checked.prog.looks []/\ ∀ (j:Nat) t,fn.params[j]? =some t->Tryz.pinned.checked.prog.wantsStandIn t=false:=by
 obtain rfl:f=3:=Option.some.inj ((show JG.funcNamed MR.name=some 3 by kernel_rfl).symm.trans hf) |>.symm;obtain rfl:fn=MR:=(Option.some.inj (MQ.symm.trans hfn)).symm;refine ⟨Ξ,fun j t b=> ?_⟩;rw[QY] at b;have c:t∈[22]:=by simpa using Array.mem_of_getElem? b
 have a:([22].all fun u=> !JG.wantsStandIn u)=true:=Ξ
 exact (show JG.wantsStandIn t=false by simpa using List.all_eq_true.1 a t c)
theorem proved:Rows.FnScriptsCardSaid:=
 Claim7.holds_tied_plain_at .later [] _ _ _ _ said (fun _ h=>Ω) Ξ (fun _ h=>Ω) fnScripts_row_tie rfl ⟨rfl,rfl⟩ Ξ rfl plain Ξ
end Go.Proofs.YtgjefeiddfjjnaaGreatDoor.lawFnScripts
