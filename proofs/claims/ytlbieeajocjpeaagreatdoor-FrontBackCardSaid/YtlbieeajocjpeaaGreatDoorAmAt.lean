/- Points within a function's code: running on from one; a step at one. -/
import Derived.Test.YtlbieeajocjpeaaGreatDoorAmRun
namespace Go.AM
noncomputable def descend (P:Program) (lm:Nat) (call:Caller) (n:Nat) (kp:AV → Env → St → Out):Code → List Nat → List Nat → Nat → (X → Env → St → Out) → Env → St → Out
 | .seq a b,0 :: p,ms,live,k,env,σ=>descend P lm call n kp a p ms (live ||| liveIn b) (fun x env σ=>match x with | .normal=>run P lm call n kp b live k (cond (joins a) (env.clean (live ||| liveIn b)) env) σ | x=>k x env σ) env σ
 | .seq _ b,_ :: p,ms,live,k,env,σ=>descend P lm call n kp b p ms live k env σ
 | .cond _ a _,0 :: p,ms,live,k,env,σ=>descend P lm call n kp a p ms live k env σ
 | .cond _ _ b,_ :: p,ms,live,k,env,σ=>descend P lm call n kp b p ms live k env σ
 | .block id b,_ :: p,ms,live,k,env,σ=>descend P lm call n kp b p ms live (fun x env σ=>match x with | .exit j=>if j = id then k .normal (env.clean live) σ else k (.exit j) env σ | x=>k x env σ) env σ
 | .loop b,[],m :: _,live,k,env,σ=>loopK (live ||| liveIn b) (fun k env σ=>run P lm call n kp b (live ||| liveIn b) k env σ) k m env σ
 | .loop b,_ :: p,m :: ms,live,k,env,σ=>descend P lm call n kp b p ms (live ||| liveIn b)
   (fun x env' σ'=>match x with | .normal=>loopK (live ||| liveIn b) (fun k env σ=>run P lm call n kp b (live ||| liveIn b) k env σ) k m (env'.clean (live ||| liveIn b)) σ' | x=>k x env' σ') env σ
 | .region _ _ _,_ :: _,_,_,_,_,_=>none
 | c,_,_,live,k,env,σ=>run P lm call n kp c live k env σ
def bodyOf (P:Program) (f:FuncId):Code:=match P.funcs[f]? with | some fn=>fn.body.getD .skip | none=>.skip
def lmOf (P:Program) (f:FuncId):Nat:=match P.funcs[f]? with | some fn=>localMask fn | none=>0
def resOf (P:Program) (f:FuncId):List ResultVar:=match P.funcs[f]? with | some fn=>fn.results.toList | none=>[]
def ntOf (P:Program) (f:FuncId):Nat:=match P.funcs[f]? with | some fn=>fn.ntmps | none=>0
noncomputable def endK (P:Program) (B:Caller) (f:FuncId) (n:Nat):X → Env → St → Out:=fun x env σ'=>match x with
 | .exit _=>none
 | _=>leaveK P (runD P (callP P B n) n) (resOf P f) env.defs none env σ'
noncomputable def panE (P:Program) (B:Caller) (f:FuncId) (n:Nat):AV → Env → St → Out:=fun v env σ'=>leaveK P (runD P (callP P B n) n) (resOf P f) env.defs (some v) env σ'
def panK:AV → St → Out:=fun v σ'=>some (.pan v,σ')
noncomputable def pt (P:Program) (B:Caller) (f:FuncId) (n:Nat) (p ms:List Nat) (env:Env) (σ:St):Out:=
 descend P (lmOf P f) (callP P B n) n (panE P B f n) (bodyOf P f) p ms ((resOf P f).foldl (fun m r=>m ||| resBit r) 0) (endK P B f n) env σ
end Go.AM
