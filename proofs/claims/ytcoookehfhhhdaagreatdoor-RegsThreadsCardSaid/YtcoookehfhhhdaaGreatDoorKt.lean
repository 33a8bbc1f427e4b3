/- The law RegsThreads. Tables hold what their text lays; lengths are bounded. -/
import Derived.Test.YtcoookehfhhhdaaGreatDoorKe
import Derived.Test.YtcoookehfhhhdaaGreatDoorKx
namespace Go.Proofs.YtcoookehfhhhdaaGreatDoor.c
open Go.RowKit
set_option linter.unusedVariables false
set_option linter.unusedSimpArgs false
theorem kcall_n (l:List Fc) (A:Option Addr) (len cap:Nat) (ck:Bool) (wb:World) (hlen:len=l.length) (hval:validS l=0) (hsnd:∀ k,k < l.length → unsoundS (l.getD k default).code < 0) (hA:FcAt wb A l):∀ n d,d + n=31 → KCall l A len cap ck wb d
 | 0,d,h=>kcall_deep l A len cap ck wb d (by omega) (by omega)
 | n + 1,d,h=>kcall_step l A len cap ck wb d hlen hval hsnd hA (by omega) (kcall_n l A len cap ck wb hlen hval hsnd hA n (d + 1) (by omega))
theorem kruns_any (l:List Fc) (A:Option Addr) (len cap:Nat) (ck:Bool) (hlen:len=l.length):KRuns l A len cap ck:=fun hv hs wb hA=>kcall_n l A len cap ck wb hlen hv hs hA 30 1 rfl
theorem regsThreads_any (A:Option Addr) (ca:Nat) (l:List Fc) {ln:Nat} (nm:ByteArray) (vA:Option Addr) (vc:Nat) (av:List Val) {na:Nat} (ck:Bool) (w:World) (L:Laid w) (hln:ln=l.length) (hna:na=av.length) (hA:FcAt w A l) (hV:ValsAt w vA av) (hl:ln ≤ 140737488355328) (hn:na ≤ 140737488355328) (hfl:∀ f,f ∈ l → f.code.length ≤ 140737488355328) :
  Calls Tryz.prog 3 #[.slice A ln ca,.agg #[.string nm,.slice vA na vc,.bool ck]] w fun e w'=>e=.returned (.bool true)∧Ext w w' :=
 regsThreads_of kruns_any A ca l nm vA vc av ck w L hln hna hA hV hl hn hfl
end Go.Proofs.YtcoookehfhhhdaaGreatDoor.c
