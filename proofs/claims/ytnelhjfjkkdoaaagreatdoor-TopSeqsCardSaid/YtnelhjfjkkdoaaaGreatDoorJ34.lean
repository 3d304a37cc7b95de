import Derived.Test.YtnelhjfjkkdoaaaGreatDoorJ33
set_option linter.unusedSimpArgs false
set_option linter.unusedVariables false
namespace Go.Proofs.YtnelhjfjkkdoaaaGreatDoor
section
open Go.RowKit Go.Instr
attribute [local go_sem] ba_get ByteArray.mk_append_mk
attribute [local go_sem ↓] Go.wp_at_zero Go.wp_at_succ
theorem own_base {w:World} {B B' e size n:Nat} {v:Value} {xs:List Value} (h:w.ownsRow B e size v n xs) (hB:B'≤B):w.ownsRow B' e size v n xs:=
 ⟨h.1,h.2.imp id (fun ⟨g,cap,cur,e,hb,r⟩=>⟨g,cap,cur,e,Nat.le_trans hB hb,r⟩)⟩
theorem LgAt.base {w:World} {B B' lb:Nat} {g:LgM} (h:LgAt w B lb g) (hB:B'≤B):LgAt w B' lb g:={h with own:=own_base h.own hB,lo:=Nat.le_trans hB h.lo}
theorem add_L {L L':List En} {n:Nat} (hn:L.length=n+1) {q:En} (hq:L[n]?=some q) {view:Int} {txs:List Ex.Tx} (h1:Led.makeC q view txs=0→L'=L++ [Led.makeE L q view txs]) (h2:Led.makeC q view txs≠0→L'=L):L'=(Led.addW L view txs).1:=by
 by_cases hc:Led.makeC q view txs=0
 ·rw [Led.add_ok hn hq hc]; exact h1 hc
 ·have e:L[n]'(by omega)=q:=by rw [List.getElem?_eq_getElem (by omega)] at hq; exact Option.some.inj hq
  rw [h2 hc];unfold Led.addW;rw [Led.last_of hn,e];simp only
  rw [if_neg hc]
theorem Led.Few.mono {L:List En} {n m:Nat} (h:Led.Few L n) (hm:n≤m):Led.Few L m:=fun e he=>Nat.le_trans (h e he) hm
end
end Go.Proofs.YtnelhjfjkkdoaaaGreatDoor