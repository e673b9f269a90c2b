/- A text's stream of tokens: what its tokens are, and that it comes to an end. -/
import Derived.Test.YtlbieeajocjpeaaGreatDoorTr2
import Derived.Test.YtlbieeajocjpeaaGreatDoorWk2
set_option linter.unusedSimpArgs false
set_option linter.unusedVariables false
namespace Go.Front
theorem parse_range {c:UInt8} {r:List UInt8} {v:Int} (hc:isDigit c = true) (h:Lib.parseIntB 64 (c :: r) = .ok v):0 ≤ v ∧ v < 9223372036854775808:=by
 have h1:48 ≤ c.toNat ∧ c.toNat ≤ 57:=by unfold isDigit at hc;simpa using hc
 unfold Lib.parseIntB at h
 simp only at h
 rw [if_neg (by omega)] at h
 cases hu:Lib.parseUintB 64 (c :: r)
 case ok u=>
  rw [hu] at h
  simp only at h
  split at h
  ·cases h
  ·rename_i h2
   split at h
   ·cases h
   ·rw [if_neg (by omega)] at h
    cases h
    have:¬ (2 ^ (64 - 1) ≤ u):=fun h3=>h2 ⟨by omega,h3⟩
    have e:(2:Nat) ^ (64 - 1) = 9223372036854775808:=by decide
    omega
 all_goals rw [hu] at h;cases h
theorem esc_ok {d b:UInt8} (h:esc d = some b) (h0:b ≠ 0):(32 ≤ b.toNat ∧ b.toNat ≤ 126) ∨ b = 9 ∨ b = 10:=by
 unfold esc at h
 repeat' split at h
 all_goals first | cases h | skip
 all_goals simp at h0 ⊢
theorem strBody_ok:∀ (m:Nat) (l:List UInt8) (n:Nat) {b:List UInt8} {k:Nat},l.length ≤ m → n ≤ 100 → strBody l n = some (b,k) → b.length + n ≤ 100 ∧ ∀ x ∈ b,(32 ≤ x.toNat ∧ x.toNat ≤ 126) ∨ x = 9 ∨ x = 10:=by
 intro m
 induction m with
 | zero=>intro l n b k hl hn h;cases l with | nil=>simp [strBody] at h | cons _ _=>simp at hl
 | succ m ih=>
  intro l n b k hl hn h
  match l with
  | []=>simp [strBody] at h
  | [c]=>
   simp only [strBody] at h
   split at h
   ·simp only [Option.some.injEq,Prod.mk.injEq] at h;obtain ⟨rfl,_⟩:=h;simp;exact hn
   ·cases h
  | c :: d :: r=>
   simp only [strBody] at h
   simp only [List.length_cons] at hl
   split at h
   ·simp only [Option.some.injEq,Prod.mk.injEq] at h;obtain ⟨rfl,_⟩:=h;simp;exact hn
   split at h
   ·cases he:esc d with
    | none=>rw [he] at h;cases h
    | some x=>
     rw [he] at h
     simp only at h
     split at h
     ·cases h
     ·rename_i h0
      obtain ⟨⟨b',k'⟩,h1,h2⟩:=Option.map_eq_some_iff.1 h
      have:=ih r (n + 1) (by omega) (by omega) h1
      simp only [Prod.mk.injEq] at h2
      obtain ⟨rfl,_⟩:=h2
      refine ⟨by simp only [List.length_cons];omega,fun y hy=>?_⟩
      cases hy with
      | head=>exact esc_ok he (fun e=>h0 (.inl e))
      | tail _ hy=>exact this.2 y hy
   split at h
   ·rename_i hr
    split at h
    ·cases h
    ·obtain ⟨⟨b',k'⟩,h1,h2⟩:=Option.map_eq_some_iff.1 h
     have:=ih (d :: r) (n + 1) (by simp;omega) (by omega) h1
     simp only [Prod.mk.injEq] at h2
     obtain ⟨rfl,_⟩:=h2
     refine ⟨by simp only [List.length_cons];omega,fun y hy=>?_⟩
     cases hy with
     | head=>exact .inl hr
     | tail _ hy=>exact this.2 y hy
   ·cases h
theorem tw_all {f:UInt8 → Bool}:∀ (l:List UInt8),∀ x ∈ l.takeWhile f,f x = true
 | [],x,h=>by cases h
 | c :: r,x,h=>by
  rw [List.takeWhile_cons] at h
  split at h
  ·cases h with
   | head=>assumption
   | tail _ h=>exact tw_all r x h
  ·cases h
theorem one_ok {l:List UInt8} {k:Nat} {t:List UInt8} {n:Int} {q at_:Nat} (h:one l = some (k,t,n,q)):TokOk ⟨k,at_,t,n⟩ ∧ (k ≠ 0 → 1 ≤ q) ∧ (k = 0 → l = []):=by
 cases l with
 | nil=>
  simp only [one,Option.some.injEq,Prod.mk.injEq] at h
  obtain ⟨rfl,_⟩:=h
  exact ⟨⟨nofun,nofun,nofun⟩,fun h=>absurd rfl h,fun _=>rfl⟩
 | cons c r=>
  simp only [one] at h
  split at h
  ·rename_i hL
   have hw:(c :: r).takeWhile (fun c=>isLetter c || isDigit c) = c :: r.takeWhile (fun c=>isLetter c || isDigit c):=by rw [List.takeWhile_cons,if_pos (by rw [hL];rfl)]
   split at h
   ·simp only [Option.some.injEq,Prod.mk.injEq] at h
    obtain ⟨rfl,_,_,rfl⟩:=h
    exact ⟨⟨nofun,nofun,nofun⟩,fun _=>by rw [hw];simp,nofun⟩
   ·rename_i hnw
    split at h
    ·rename_i h14
     simp only [Option.some.injEq,Prod.mk.injEq] at h
     obtain ⟨rfl,rfl,_,rfl⟩:=h
     refine ⟨⟨fun _=>⟨h14,by simpa using hnw,c,_,hw,hL,fun x hx=>?_⟩,nofun,nofun⟩,fun _=>by rw [hw];simp,nofun⟩
     have:=tw_all r x hx
     simpa using this
    ·cases h
  split at h
  ·rename_i hD
   have hw:(c :: r).takeWhile isDigit = c :: r.takeWhile isDigit:=by rw [List.takeWhile_cons,if_pos hD]
   cases hp:Lib.parseIntB 64 (List.takeWhile isDigit (c :: r))
   case ok v=>
    have hr:=hp
    rw [hw] at hr
    have hr:=parse_range hD hr
    rw [hp] at h
    simp only [numOf] at h
    split at h
    ·cases h
    ·simp only [Option.some.injEq,Prod.mk.injEq] at h
     obtain ⟨rfl,_,rfl,rfl⟩:=h
     exact ⟨⟨nofun,fun _=>hr,nofun⟩,fun _=>by rw [hw];simp,nofun⟩
   all_goals rw [hp] at h;cases h
  split at h
  ·cases hb:strBody r 0 with
   | none=>rw [hb] at h;cases h
   | some x=>
    obtain ⟨b,k'⟩:=x
    rw [hb] at h
    have:=strBody_ok r.length r 0 (Nat.le_refl _) (by omega) hb
    simp only [Option.map_some,Option.some.injEq,Prod.mk.injEq] at h
    obtain ⟨rfl,rfl,_,rfl⟩:=h
    exact ⟨⟨nofun,nofun,fun _=>⟨by have:=this.1;omega,this.2⟩⟩,fun _=>by omega,nofun⟩
  split at h
  ·cases he:escape 39 r with
   | none=>rw [he] at h;cases h
   | some x=>
    obtain ⟨b,k'⟩:=x
    rw [he] at h
    simp only at h
    split at h
    ·simp only [Option.some.injEq,Prod.mk.injEq] at h
     obtain ⟨rfl,_,rfl,rfl⟩:=h
     exact ⟨⟨nofun,fun _=>by have:=UInt8.toNat_lt b;simp only;omega,nofun⟩,fun _=>by omega,nofun⟩
    ·cases h
  ·cases hf:marks.find? fun m=>m.isPrefixOf (c :: r) with
   | none=>rw [hf] at h;cases h
   | some m=>
    rw [hf] at h
    have hm:1 ≤ m.length:=(by decide:∀ m ∈ marks,1 ≤ m.length) m (List.mem_of_find?_eq_some hf)
    simp only [Option.map_some,Option.some.injEq,Prod.mk.injEq] at h
    obtain ⟨rfl,_,_,rfl⟩:=h
    exact ⟨⟨nofun,nofun,nofun⟩,fun _=>hm,nofun⟩
def strmOk (s:List UInt8):StrmOk (strm s) s.length where
 val:=fun (q:Nat)=>q ≤ s.length
 lo:=fun (q:Nat)=>q
 left:=fun (q:Nat)=>s.length - q
 ok:=by
  refine fun (q:Nat) t (q':Nat) hv h=>?_
  have hv:q ≤ s.length:=hv
  have hnx:(strm s).nxt q = match cut s q with | (f,none)=>.inl f | (_,some (t,q))=>.inr (t,q):=rfl
  rw [hnx] at h
  have hle:=@cut_le s q hv
  unfold cut at h hle
  simp only at h hle
  have hs:=(skip_le (s.drop q)).1
  rw [List.length_drop] at hs
  have hq:(q:Nat) ≤ q + skip false (s.drop q):=Nat.le_add_right _ _
  have hf:q + skip false (s.drop q) ≤ s.length:=by omega
  generalize q + skip false (s.drop q) = from_ at *
  cases ho:one (s.drop from_) with
  | none=>rw [ho] at h;cases h
  | some x=>
   obtain ⟨k,tx,n,l⟩:=x
   rw [ho] at h hle
   simp only [Option.map_some] at h hle
   cases h
   obtain ⟨h1,h2,h3⟩:=one_ok (at_:=from_) ho
   have h4:=hle rfl
   refine ⟨h1,hq,hf,fun hk=>?_,h4⟩
   have:=h2 hk
   refine ⟨?_,?_,?_⟩
   ·show from_ < from_ + l;omega
   ·show from_ < s.length;omega
   ·show s.length - (from_ + l) < s.length - q;omega
 bad:=by
  refine fun (q:Nat) f hv h=>?_
  have hv:q ≤ s.length:=hv
  have hnx:(strm s).nxt q = match cut s q with | (f,none)=>.inl f | (_,some (t,q))=>.inr (t,q):=rfl
  rw [hnx] at h
  have hs:=(skip_le (s.drop q)).1
  rw [List.length_drop] at hs
  unfold cut at h
  simp only at h
  cases ho:one (s.drop (q + skip false (s.drop q))) with
  | none=>rw [ho] at h;cases h;omega
  | some x=>rw [ho] at h;cases h
end Go.Front
