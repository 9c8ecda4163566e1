/- A contract by hand: the white space table, the fields of a text of ASCII bytes. -/
import Derived.Test.YtogjplcnmibnlaaGreatDoorEvU
import Derived.Shelf.Strings.Fields
set_option autoImplicit false
set_option linter.unusedSectionVars false
set_option linter.unusedVariables false
set_option linter.unusedSimpArgs false
namespace Go.Ev
variable [MT]
variable [Inhabited KA0]
def allAscii:List Nat→Bool
 | []=>true
 | a::l=>Nat.blt a 128&&allAscii l
def fieldsA (s:List Nat):List AV:=(Lib.fields (s.map UInt8.ofNat)).map fun l => .str (l.map (·.toNat))
def primFields:List AV→H→Option (AV × H)
 | [.str s],h=>bif allAscii s&&Nat.blt s.length 4294967281 then some (.sl .full (fieldsA s),h)else none
 | _,_=>none
theorem allAscii_spec:∀ {l:List Nat},allAscii l=true→∀ x∈l,x<128
 | [],_,x,hx=>by simp at hx
 | a::l,h,x,hx=>by
  simp only[allAscii,Bool.and_eq_true]at h
  rcases List.mem_cons.1 hx with rfl|hx
  ·exact cR.1 h.1
  ·exact allAscii_spec h.2 x hx
theorem bytes_back (S:ByteArray):(bytesOf S).map UInt8.ofNat=S.data.toList:=by
 unfold bytesOf
 rw[List.map_map]
 conv=>rhs;rw[←List.map_id S.data.toList]
 refine List.map_congr_left fun x _ => ?_
 simp
theorem primFields_ok {P : Program} {f e : Nat} (hF : ∀ (s : ByteArray) (w : World), s.size < 4294967281 → (∀ (j : Nat) b, s.data.toList[j]? = some b → b.toNat < 128) → Lib.TabIs P w "strings.asciiSpace" .u8 Lib.asciiSpaceTab →
   Calls P f #[.string s] w fun e' w'=>e' = .returned (.slice (some ⟨w.heap.size,0,none⟩) (Lib.fields s.data.toList).length (Lib.fields s.data.toList).length) ∧
    w'=w.alloc (.cells ((Lib.fields s.data.toList).map fun l=>Value.string ⟨l.toArray⟩).toArray e))
  (hk:∀ (G:Gh) (w:World),Kept G w→Lib.TabIs P w "strings.asciiSpace" .u8 Lib.asciiSpaceTab) :
  ∀ args h v h',primFields args h=some (v,h')→∀ G w (A:Array Value),Inv G w h→VRs G w A.toList args→Calls P f A w (Post G w h v h'):=by
 intro args h v h' hp G w A I hA
 unfold primFields at hp
 split at hp
 ·rename_i s
  cases hc:(allAscii s&&Nat.blt s.length 4294967281)with
  | false=>rw[hc]at hp;simp at hp
  | true=>
   rw[hc]at hp
   simp only[cond_true,Option.some.injEq,Prod.mk.injEq]at hp
   obtain⟨rfl,rfl⟩:=hp
   simp only[Bool.and_eq_true]at hc
   obtain⟨V,rfl⟩:∃ V,A = #[V]:=by
    have:=hA.1
    obtain⟨l⟩:=A
    match l,this with
    | [V],_=>exact⟨V,rfl⟩
   have hV:=hA.2 0 V (.str s) rfl rfl
   cases hV with
   | str S=>
   have hlen:S.size<4294967281:=by rw[←fP];exact cR.1 hc.2
   refine(hF S w hlen (fun j b hb => ?_) (hk G w I.ka)).mono ?_
   ·refine allAscii_spec hc.1 b.toNat ?_
    unfold bytesOf
    exact List.mem_map.2 ⟨b,List.mem_of_getElem? hb,rfl⟩
   ·rintro e' w' ⟨rfl,rfl⟩
    have hval:VRs G w ((Lib.fields S.data.toList).map fun l=>Value.string ⟨l.toArray⟩) ((fieldsA (bytesOf S)).flatMap AV.cells):=by
     have hfl:(fieldsA (bytesOf S)).flatMap AV.cells=(Lib.fields S.data.toList).map fun l=>AV.str (l.map (·.toNat)):=by
      unfold fieldsA
      rw[bytes_back]
      generalize Lib.fields S.data.toList=L
      induction L with
      | nil=>rfl
      | cons a L ih=>simp only[List.map_cons,List.flatMap_cons,ih];rfl
     rw[hfl]
     refine⟨by simp,fun i u x hu hx => ?_⟩
     rw[List.getElem?_map]at hu hx
     cases hl:(Lib.fields S.data.toList)[i]? with
     | none=>rw[hl]at hu;simp at hu
     | some l=>
      rw[hl]at hu hx
      simp only[Option.map_some,Option.some.injEq]at hu hx
      subst hu;subst hx
      exact VR.str ⟨l.toArray⟩
    have hsl:=VR.sl_new (e:=e) (s:=1) (els:=fieldsA (bytesOf S)) (fun x hx=>by
     unfold fieldsA at hx
     obtain⟨l,_,rfl⟩:=List.mem_map.1 hx
     rfl) hval I
    have hn:(fieldsA (bytesOf S)).length=(Lib.fields S.data.toList).length:=by unfold fieldsA;rw[bytes_back];simp
    rw[hn]at hsl
    exact⟨G,_,rfl,hsl,alloc_inv I _,alloc_ext I _⟩
 ·simp at hp
end Go.Ev
