/- What the functions compute, and that the code computes it: printed by a program of this claim (wip/tools), for the group Opens. -/
import Derived.Test.YtgbloaophfaaoaaDoorGOpens
namespace Go.Proofs.YtgbloaophfaaoaaDoor
set_option linter.all false
open Go Go.RowKit Go.Fw
set_option linter.unusedVariables false

def F.law12_JournalOpens.r5 (r49 : (Option journal_Journal) × Int) (x62 : Bool) : Option ((Unit) ⊕ (Bool)) :=
  if x62 then (if r49.2 == 1 then (Option.bind (F.law12_awake) (fun (r65 : Bool) => some (.inr (r65)))) else (some (.inr (false)))) else (some (.inl ()))
def F.law12_JournalOpens.r7 (r49 : (Option journal_Journal) × Int) (x70 : Bool) : Option ((Unit) ⊕ (Bool)) :=
  if x70 then (if r49.2 == 5 then (Option.bind (F.law12_awake) (fun (r73 : Bool) => some (.inr (r73)))) else (some (.inr (false)))) else (some (.inl ()))
def F.law12_JournalOpens.r9 (x2 : Int) (r49 : (Option journal_Journal) × Int) : Option (Bool) :=
  if r49.2 == 0 then (Option.bind (F.journal_Journal_Records) (fun (r77 : (List ByteArray)) => if ((r77.length : Int) == 1) == false then (Option.bind (F.journal_Journal_Records) (fun (r81 : (List ByteArray)) => if ((r81.length : Int) == 0) == true then (Option.bind (F.journal_Journal_Left_1) (fun (r85 : Int) => Option.bind (F.journal_Journal_Used_1) (fun (r87 : Int) => if r85 == (IntKind.i64.wrap (x2 - r87)) then (Option.bind (F.law12_awake) (fun (r90 : Bool) => some (r90))) else (some (false))))) else (some (false)))) else (some (false)))) else (some (false))
def F.law12_JournalOpens.r8 (x2 : Int) (r49 : (Option journal_Journal) × Int) : Option (Bool) :=
  Option.bind (some (())) (fun x => F.law12_JournalOpens.r9 x2 r49)
def F.law12_JournalOpens.r6 (x0 : Int) (x1 : Int) (x2 : Int) (r49 : (Option journal_Journal) × Int) : Option (Bool) :=
  thru (Option.bind (if decide (x1 > x0) then (some (true)) else (some ((decide (x2 > (IntKind.i64.wrap (x0 - x1))))))) (fun x => F.law12_JournalOpens.r7 r49 x)) (fun x => F.law12_JournalOpens.r8 x2 r49)
def F.law12_JournalOpens.r4 (x0 : Int) (x1 : Int) (x2 : Int) (x3 : Int) (r49 : (Option journal_Journal) × Int) : Option (Bool) :=
  thru (Option.bind (if decide (x1 < 0) then (some (true)) else (if decide (x2 < 1) then (some (true)) else (if decide (x3 < 1) then (some (true)) else (some ((decide (x3 > 4294967295))))))) (fun x => F.law12_JournalOpens.r5 r49 x)) (fun x => F.law12_JournalOpens.r6 x0 x1 x2 r49)
def F.law12_JournalOpens.r11 (x101 : Bool) : Option ((Unit) ⊕ (Bool)) :=
  if x101 then (some (.inr (false))) else (some (.inl ()))
def F.law12_JournalOpens.r13 (x106 : Bool) : Option ((Unit) ⊕ (Bool)) :=
  if x106 then (some (.inr (false))) else (some (.inl ()))
def F.law12_JournalOpens.r15 (x2 : Int) (r28_s1 : disk_Disk) (r38_s1 : guard_Guard) (r49_s1 : journal_Journal) : Option (Bool) :=
  Option.bind (F.journal_Journal_Records_1 r49_s1 r38_s1 r28_s1) (fun (r109 : (List ByteArray)) => if ((r109.length : Int) == 1) == false then (Option.bind (F.journal_Journal_Records_1 r49_s1 r38_s1 r28_s1) (fun (r113 : (List ByteArray)) => if ((r113.length : Int) == 0) == true then (Option.bind (F.journal_Journal_Left r49_s1 r38_s1 r28_s1) (fun (r117 : Int) => Option.bind (F.journal_Journal_Used r49_s1 r38_s1 r28_s1) (fun (r119 : Int) => if r117 == (IntKind.i64.wrap (x2 - r119)) then (Option.bind (F.law12_awake) (fun (r122 : Bool) => some (r122))) else (some (false))))) else (some (false)))) else (some (false)))
def F.law12_JournalOpens.r14 (x2 : Int) (r28_s1 : disk_Disk) (r38_s1 : guard_Guard) (r49_s1 : journal_Journal) : Option (Bool) :=
  Option.bind (some (())) (fun x => F.law12_JournalOpens.r15 x2 r28_s1 r38_s1 r49_s1)
def F.law12_JournalOpens.r12 (x0 : Int) (x1 : Int) (x2 : Int) (r28_s1 : disk_Disk) (r38_s1 : guard_Guard) (r49_s1 : journal_Journal) : Option (Bool) :=
  thru (Option.bind (if decide (x1 > x0) then (some (true)) else (some ((decide (x2 > (IntKind.i64.wrap (x0 - x1))))))) (fun x => F.law12_JournalOpens.r13 x)) (fun x => F.law12_JournalOpens.r14 x2 r28_s1 r38_s1 r49_s1)
def F.law12_JournalOpens.r10 (x0 : Int) (x1 : Int) (x2 : Int) (x3 : Int) (r28_s1 : disk_Disk) (r38_s1 : guard_Guard) (r49_s1 : journal_Journal) : Option (Bool) :=
  thru (Option.bind (if decide (x1 < 0) then (some (true)) else (if decide (x2 < 1) then (some (true)) else (if decide (x3 < 1) then (some (true)) else (some ((decide (x3 > 4294967295))))))) (fun x => F.law12_JournalOpens.r11 x)) (fun x => F.law12_JournalOpens.r12 x0 x1 x2 r28_s1 r38_s1 r49_s1)
def F.law12_JournalOpens.r3 (x0 : Int) (x1 : Int) (x2 : Int) (x3 : Int) (r28_s1 : disk_Disk) (r38_s1 : guard_Guard) : Option (Bool) :=
  Option.bind (F.journal_Open x1 x2 x3 r38_s1 r28_s1) (fun (r49 : (Option journal_Journal) × Int) => optC r49.1 (Option.bind (F.journal_Open_1 x1 x2 x3) (fun (r53 : Int) => thru (if r53 != 1 then (some (.inr (false))) else (some (.inl ()))) (fun x => F.law12_JournalOpens.r4 x0 x1 x2 x3 r49))) (fun (r49_s1 : journal_Journal) => Option.bind (F.journal_Open_1 x1 x2 x3) (fun (r92 : Int) => thru (if r92 != 1 then (some (.inr (false))) else (some (.inl ()))) (fun x => F.law12_JournalOpens.r10 x0 x1 x2 x3 r28_s1 r38_s1 r49_s1))))
def F.law12_JournalOpens.r18 (r156 : (Option journal_Journal) × Int) (x169 : Bool) : Option ((Unit) ⊕ (Bool)) :=
  if x169 then (if r156.2 == 1 then (Option.bind (F.law12_awake) (fun (r172 : Bool) => some (.inr (r172)))) else (some (.inr (false)))) else (some (.inl ()))
def F.law12_JournalOpens.r20 (r156 : (Option journal_Journal) × Int) (x177 : Bool) : Option ((Unit) ⊕ (Bool)) :=
  if x177 then (if r156.2 == 5 then (Option.bind (F.law12_awake) (fun (r180 : Bool) => some (.inr (r180)))) else (some (.inr (false)))) else (some (.inl ()))
def F.law12_JournalOpens.r22 (x2 : Int) (r156 : (Option journal_Journal) × Int) (x190 : Bool) : Option (Bool) :=
  if r156.2 == 0 then (Option.bind (F.journal_Journal_Records) (fun (r192 : (List ByteArray)) => if ((r192.length : Int) == 1) == x190 then (Option.bind (F.journal_Journal_Records) (fun (r196 : (List ByteArray)) => if ((r196.length : Int) == 0) == (!x190) then (Option.bind (F.journal_Journal_Left_1) (fun (r200 : Int) => Option.bind (F.journal_Journal_Used_1) (fun (r202 : Int) => if r200 == (IntKind.i64.wrap (x2 - r202)) then (Option.bind (F.law12_awake) (fun (r205 : Bool) => some (r205))) else (some (false))))) else (some (false)))) else (some (false)))) else (some (false))
def F.law12_JournalOpens.r21 (x1 : Int) (x2 : Int) (x3 : Int) (x130 : Int) (x131 : Int) (x132 : Int) (x133 : Int) (l134 : List ByteArray) (x138 : Int) (x139 : Bool) (x140 : Int) (x141 : Int) (l142 : List disk_sector) (l146 : List (Int × disk_sector)) (x149 : Bool) (x150 : Bool) (x151 : Int) (x152 : Int) (x153 : Int) (x154 : Int) (x155 : Int) (r156 : (Option journal_Journal) × Int) : Option (Bool) :=
  Option.bind (Option.bind (F.journal_Journal_Used (⟨x130, x131, x132, x133, l134, x138, x139⟩ : journal_Journal) (⟨x140, x141⟩ : guard_Guard) (⟨l142, l146, x149, x150, x151, (⟨x152, x153⟩ : disk_Fall), x154, x155⟩ : disk_Disk)) (fun (r183 : Int) => if decide (r183 > 0) then (if x1 == 3 then (if x3 == 7 then (Option.bind (F.journal_Journal_Used (⟨x130, x131, x132, x133, l134, x138, x139⟩ : journal_Journal) (⟨x140, x141⟩ : guard_Guard) (⟨l142, l146, x149, x150, x151, (⟨x152, x153⟩ : disk_Fall), x154, x155⟩ : disk_Disk)) (fun (r188 : Int) => some ((decide (x2 ≥ r188))))) else (some (false))) else (some (false))) else (some (false)))) (fun x => F.law12_JournalOpens.r22 x2 r156 x)
def F.law12_JournalOpens.r19 (x0 : Int) (x1 : Int) (x2 : Int) (x3 : Int) (x130 : Int) (x131 : Int) (x132 : Int) (x133 : Int) (l134 : List ByteArray) (x138 : Int) (x139 : Bool) (x140 : Int) (x141 : Int) (l142 : List disk_sector) (l146 : List (Int × disk_sector)) (x149 : Bool) (x150 : Bool) (x151 : Int) (x152 : Int) (x153 : Int) (x154 : Int) (x155 : Int) (r156 : (Option journal_Journal) × Int) : Option (Bool) :=
  thru (Option.bind (if decide (x1 > x0) then (some (true)) else (some ((decide (x2 > (IntKind.i64.wrap (x0 - x1))))))) (fun x => F.law12_JournalOpens.r20 r156 x)) (fun x => F.law12_JournalOpens.r21 x1 x2 x3 x130 x131 x132 x133 l134 x138 x139 x140 x141 l142 l146 x149 x150 x151 x152 x153 x154 x155 r156)
def F.law12_JournalOpens.r17 (x0 : Int) (x1 : Int) (x2 : Int) (x3 : Int) (x130 : Int) (x131 : Int) (x132 : Int) (x133 : Int) (l134 : List ByteArray) (x138 : Int) (x139 : Bool) (x140 : Int) (x141 : Int) (l142 : List disk_sector) (l146 : List (Int × disk_sector)) (x149 : Bool) (x150 : Bool) (x151 : Int) (x152 : Int) (x153 : Int) (x154 : Int) (x155 : Int) (r156 : (Option journal_Journal) × Int) : Option (Bool) :=
  thru (Option.bind (if decide (x1 < 0) then (some (true)) else (if decide (x2 < 1) then (some (true)) else (if decide (x3 < 1) then (some (true)) else (some ((decide (x3 > 4294967295))))))) (fun x => F.law12_JournalOpens.r18 r156 x)) (fun x => F.law12_JournalOpens.r19 x0 x1 x2 x3 x130 x131 x132 x133 l134 x138 x139 x140 x141 l142 l146 x149 x150 x151 x152 x153 x154 x155 r156)
def F.law12_JournalOpens.r24 (x216 : Bool) : Option ((Unit) ⊕ (Bool)) :=
  if x216 then (some (.inr (false))) else (some (.inl ()))
def F.law12_JournalOpens.r26 (x221 : Bool) : Option ((Unit) ⊕ (Bool)) :=
  if x221 then (some (.inr (false))) else (some (.inl ()))
def F.law12_JournalOpens.r28 (x2 : Int) (r38_s1 : guard_Guard) (l142 : List disk_sector) (l146 : List (Int × disk_sector)) (x149 : Bool) (x150 : Bool) (x151 : Int) (x152 : Int) (x153 : Int) (x154 : Int) (x155 : Int) (r156_s1 : journal_Journal) (x231 : Bool) : Option (Bool) :=
  Option.bind (F.journal_Journal_Records_1 r156_s1 r38_s1 (⟨l142, l146, x149, x150, x151, (⟨x152, x153⟩ : disk_Fall), x154, x155⟩ : disk_Disk)) (fun (r232 : (List ByteArray)) => if ((r232.length : Int) == 1) == x231 then (Option.bind (F.journal_Journal_Records_1 r156_s1 r38_s1 (⟨l142, l146, x149, x150, x151, (⟨x152, x153⟩ : disk_Fall), x154, x155⟩ : disk_Disk)) (fun (r236 : (List ByteArray)) => if ((r236.length : Int) == 0) == (!x231) then (Option.bind (F.journal_Journal_Left r156_s1 r38_s1 (⟨l142, l146, x149, x150, x151, (⟨x152, x153⟩ : disk_Fall), x154, x155⟩ : disk_Disk)) (fun (r240 : Int) => Option.bind (F.journal_Journal_Used r156_s1 r38_s1 (⟨l142, l146, x149, x150, x151, (⟨x152, x153⟩ : disk_Fall), x154, x155⟩ : disk_Disk)) (fun (r242 : Int) => if r240 == (IntKind.i64.wrap (x2 - r242)) then (Option.bind (F.law12_awake) (fun (r245 : Bool) => some (r245))) else (some (false))))) else (some (false)))) else (some (false)))
def F.law12_JournalOpens.r27 (x1 : Int) (x2 : Int) (x3 : Int) (r28 : (Option disk_Disk) × Int) (r38_s1 : guard_Guard) (x130 : Int) (x131 : Int) (x132 : Int) (x133 : Int) (l134 : List ByteArray) (x138 : Int) (x139 : Bool) (x140 : Int) (x141 : Int) (l142 : List disk_sector) (l146 : List (Int × disk_sector)) (x149 : Bool) (x150 : Bool) (x151 : Int) (x152 : Int) (x153 : Int) (x154 : Int) (x155 : Int) (r156_s1 : journal_Journal) : Option (Bool) :=
  Option.bind (Option.bind (F.journal_Journal_Used (⟨x130, x131, x132, x133, l134, x138, x139⟩ : journal_Journal) (⟨x140, x141⟩ : guard_Guard) (⟨l142, l146, x149, x150, x151, (⟨x152, x153⟩ : disk_Fall), x154, x155⟩ : disk_Disk)) (fun (r224 : Int) => if decide (r224 > 0) then (if x1 == 3 then (if x3 == 7 then (Option.bind (F.journal_Journal_Used (⟨x130, x131, x132, x133, l134, x138, x139⟩ : journal_Journal) (⟨x140, x141⟩ : guard_Guard) (⟨l142, l146, x149, x150, x151, (⟨x152, x153⟩ : disk_Fall), x154, x155⟩ : disk_Disk)) (fun (r229 : Int) => some ((decide (x2 ≥ r229))))) else (some (false))) else (some (false))) else (some (false)))) (fun x => F.law12_JournalOpens.r28 x2 r38_s1 l142 l146 x149 x150 x151 x152 x153 x154 x155 r156_s1 x)
def F.law12_JournalOpens.r25 (x0 : Int) (x1 : Int) (x2 : Int) (x3 : Int) (r28 : (Option disk_Disk) × Int) (r38_s1 : guard_Guard) (x130 : Int) (x131 : Int) (x132 : Int) (x133 : Int) (l134 : List ByteArray) (x138 : Int) (x139 : Bool) (x140 : Int) (x141 : Int) (l142 : List disk_sector) (l146 : List (Int × disk_sector)) (x149 : Bool) (x150 : Bool) (x151 : Int) (x152 : Int) (x153 : Int) (x154 : Int) (x155 : Int) (r156_s1 : journal_Journal) : Option (Bool) :=
  thru (Option.bind (if decide (x1 > x0) then (some (true)) else (some ((decide (x2 > (IntKind.i64.wrap (x0 - x1))))))) (fun x => F.law12_JournalOpens.r26 x)) (fun x => F.law12_JournalOpens.r27 x1 x2 x3 r28 r38_s1 x130 x131 x132 x133 l134 x138 x139 x140 x141 l142 l146 x149 x150 x151 x152 x153 x154 x155 r156_s1)
def F.law12_JournalOpens.r23 (x0 : Int) (x1 : Int) (x2 : Int) (x3 : Int) (r28 : (Option disk_Disk) × Int) (r38_s1 : guard_Guard) (x130 : Int) (x131 : Int) (x132 : Int) (x133 : Int) (l134 : List ByteArray) (x138 : Int) (x139 : Bool) (x140 : Int) (x141 : Int) (l142 : List disk_sector) (l146 : List (Int × disk_sector)) (x149 : Bool) (x150 : Bool) (x151 : Int) (x152 : Int) (x153 : Int) (x154 : Int) (x155 : Int) (r156_s1 : journal_Journal) : Option (Bool) :=
  thru (Option.bind (if decide (x1 < 0) then (some (true)) else (if decide (x2 < 1) then (some (true)) else (if decide (x3 < 1) then (some (true)) else (some ((decide (x3 > 4294967295))))))) (fun x => F.law12_JournalOpens.r24 x)) (fun x => F.law12_JournalOpens.r25 x0 x1 x2 x3 r28 r38_s1 x130 x131 x132 x133 l134 x138 x139 x140 x141 l142 l146 x149 x150 x151 x152 x153 x154 x155 r156_s1)
def F.law12_JournalOpens.r16 (x0 : Int) (x1 : Int) (x2 : Int) (x3 : Int) (r28 : (Option disk_Disk) × Int) (r38_s1 : guard_Guard) (x130 : Int) (x131 : Int) (x132 : Int) (x133 : Int) (l134 : List ByteArray) (x138 : Int) (x139 : Bool) (x140 : Int) (x141 : Int) (l142 : List disk_sector) (l146 : List (Int × disk_sector)) (x149 : Bool) (x150 : Bool) (x151 : Int) (x152 : Int) (x153 : Int) (x154 : Int) (x155 : Int) : Option (Bool) :=
  Option.bind (F.journal_Open x1 x2 x3 r38_s1 (⟨l142, l146, x149, x150, x151, (⟨x152, x153⟩ : disk_Fall), x154, x155⟩ : disk_Disk)) (fun (r156 : (Option journal_Journal) × Int) => optC r156.1 (Option.bind (F.journal_Open_1 x1 x2 x3) (fun (r160 : Int) => thru (if r160 != 1 then (some (.inr (false))) else (some (.inl ()))) (fun x => F.law12_JournalOpens.r17 x0 x1 x2 x3 x130 x131 x132 x133 l134 x138 x139 x140 x141 l142 l146 x149 x150 x151 x152 x153 x154 x155 r156))) (fun (r156_s1 : journal_Journal) => Option.bind (F.journal_Open_1 x1 x2 x3) (fun (r207 : Int) => thru (if r207 != 1 then (some (.inr (false))) else (some (.inl ()))) (fun x => F.law12_JournalOpens.r23 x0 x1 x2 x3 r28 r38_s1 x130 x131 x132 x133 l134 x138 x139 x140 x141 l142 l146 x149 x150 x151 x152 x153 x154 x155 r156_s1))))
def F.law12_JournalOpens.r2 (x0 : Int) (x1 : Int) (x2 : Int) (x3 : Int) (x4 : ByteArray) (r28 : (Option disk_Disk) × Int) (r28_s1 : disk_Disk) (r38_s1 : guard_Guard) : Option (Bool) :=
  Option.bind (F.law12_open 1 r28_s1) (fun (r43 : (Option (journal_Journal × guard_Guard))) => optC r43 (Option.bind (some (())) (fun x => F.law12_JournalOpens.r3 x0 x1 x2 x3 r28_s1 r38_s1)) (fun (r43_s1 : (journal_Journal × guard_Guard)) => Option.bind (Option.bind (F.journal_Journal_Append x4 r43_s1.1 r43_s1.2 r28_s1) (fun (r125 : Int × journal_Journal × guard_Guard × disk_Disk) => some ((r125.2.1.base_, r125.2.1.size_, r125.2.1.next_, r125.2.1.last_, r125.2.1.list_, r125.2.1.sure_, r125.2.1.dead_, r125.2.2.1.boot_, r125.2.2.1.n_, r125.2.2.2.sure_, r125.2.2.2.wait_, r125.2.2.2.off_, r125.2.2.2.armed_, r125.2.2.2.left_, r125.2.2.2.fall_.Keep, r125.2.2.2.fall_.Tear, r125.2.2.2.acts_, r125.2.2.2.falls_)))) (fun x => F.law12_JournalOpens.r16 x0 x1 x2 x3 r28 r38_s1 x.1 x.2.1 x.2.2.1 x.2.2.2.1 x.2.2.2.2.1 x.2.2.2.2.2.1 x.2.2.2.2.2.2.1 x.2.2.2.2.2.2.2.1 x.2.2.2.2.2.2.2.2.1 x.2.2.2.2.2.2.2.2.2.1 x.2.2.2.2.2.2.2.2.2.2.1 x.2.2.2.2.2.2.2.2.2.2.2.1 x.2.2.2.2.2.2.2.2.2.2.2.2.1 x.2.2.2.2.2.2.2.2.2.2.2.2.2.1 x.2.2.2.2.2.2.2.2.2.2.2.2.2.2.1 x.2.2.2.2.2.2.2.2.2.2.2.2.2.2.2.1 x.2.2.2.2.2.2.2.2.2.2.2.2.2.2.2.2.1 x.2.2.2.2.2.2.2.2.2.2.2.2.2.2.2.2.2)))
def F.law12_JournalOpens.r1 (x0 : Int) (x1 : Int) (x2 : Int) (x3 : Int) (x4 : ByteArray) : Option (Bool) :=
  Option.bind (F.disk_New x0) (fun (r28 : (Option disk_Disk) × Int) => optC r28.1 (Option.bind (F.guard_New_1 1) (fun (r33 : (Option guard_Guard) × Int) => optC r33.1 (some (false)) (fun (r33_s1 : guard_Guard) => some (false)))) (fun (r28_s1 : disk_Disk) => Option.bind (F.guard_New 1 r28_s1) (fun (r38 : (Option guard_Guard) × Int) => optC r38.1 (some (false)) (fun (r38_s1 : guard_Guard) => Option.bind (some (())) (fun x => F.law12_JournalOpens.r2 x0 x1 x2 x3 x4 r28 r28_s1 r38_s1)))))
def F.law12_JournalOpens (x0 : Int) (x1 : Int) (x2 : Int) (x3 : Int) (x4 : ByteArray) : Option Bool :=
  thru (if decide (x0 < 1) then (Option.bind (F.law12_awake) (fun (r23 : Bool) => some (.inr (r23)))) else (if decide (x0 > 100) then (Option.bind (F.law12_awake) (fun (r26 : Bool) => some (.inr (r26)))) else (some (.inl ())))) (fun x => F.law12_JournalOpens.r1 x0 x1 x2 x3 x4)
set_option maxRecDepth 100000 in
set_option maxHeartbeats 4000000 in
theorem c_law12_JournalOpens (I : Hl) (x0 : Int) (x1 : Int) (x2 : Int) (x3 : Int) (x4 : ByteArray) (res : Bool) (hF : F.law12_JournalOpens x0 x1 x2 x3 x4 = some res) : Tr Tryd.prog 5 [.int .i64 x0, .int .i64 x1, .int .i64 x2, .int .i64 x3, .string x4] [imm I] (fun r H' => r = .bool res ∧ H' = [imm I]) := by
  unfold F.law12_JournalOpens at hF
  refine tr_of_cw (fn := Tryd.f5) Tryd.func5 rfl (Nat.le_of_ble_eq_true rfl) 166 rfl fun F0 w0 => ?_
  refine cw_keep [0, 1, 2, 3, 4] (L' := [(0, .int .i64 x0), (1, .int .i64 x1), (2, .int .i64 x2), (3, .int .i64 x3), (4, .string x4)]) rfl ?_
  refine cw_state (S' := SAT w0 ([imm I] ++ F0)) (fun w hs => hs) ?_
  refine cw_seq ?_
  refine cw_region ?_
  refine ow_vals 1 (j := 1) [0, 1, 2, 3, 4] [(0, .int .i64 x0), (1, .int .i64 x1), (2, .int .i64 x2), (3, .int .i64 x3), (4, .string x4)] rfl (by kernel_rfl) ?_
  refine ow_end rfl ?_
  refine ew_then ?_
  obtain ⟨v21, hF, hK21⟩ := thru_some hF
  refine cw_mid (fun a w => .inl () = v21 ∧ Fr 166 [(0, .int .i64 x0), (1, .int .i64 x1), (2, .int .i64 x2), (3, .int .i64 x3), (4, .string x4)] a ∧ SAT w0 ([imm I] ++ F0) w) ?_ ?_
  · refine cw_seq ?_
    refine cw_region ?_
    refine ow_vals 3 (j := 3) [0, 1, 2, 3, 4, 23] [(0, .int .i64 x0), (1, .int .i64 x1), (2, .int .i64 x2), (3, .int .i64 x3), (4, .string x4), (23, .bool (decide (x0 < 1)))] rfl (by kernel_rfl) ?_
    rcases if_some hF with ⟨h22, hF⟩ | ⟨h22, hF⟩
    · refine ow_slots (L' := [(0, .int .i64 x0), (1, .int .i64 x1), (2, .int .i64 x2), (3, .int .i64 x3), (4, .string x4), (23, .bool true)]) (by rw [h22]) ?_
      refine ow_vals 3 (j := 6) [0, 1, 2, 3, 4, 26] [(0, .int .i64 x0), (1, .int .i64 x1), (2, .int .i64 x2), (3, .int .i64 x3), (4, .string x4), (26, .bool true)] rfl (by kernel_rfl) ?_
      refine ow_end rfl ?_
      refine ew_then ?_
      refine cw_cond_t rfl rfl rfl ?_
      refine cw_seq ?_
      refine cw_region ?_
      obtain ⟨r23, h24, hF⟩ := bind_some hF
      refine ow_pw rfl (pw_call (F := [] ++ F0) rfl rfl rfl rfl rfl rfl rfl (by kernel_rfl) (perm_of_pulls [0] rfl) (c_law12_awake _ r23 h24) ?_)
      rintro _ _ ⟨rfl, rfl⟩
      refine nw_H (H' := [imm I] ++ F0) rfl (nw_ow ?_)
      refine ow_vals 1 (j := 2) [10] [(10, .bool r23)] rfl (by kernel_rfl) ?_
      refine ow_end rfl ?_
      refine ew_then ?_
      refine cw_ret ?_
      refine ew_then_ret ?_
      have hR := Option.some.inj hF
      subst hR
      have hR := hK21
      try dsimp only [Thru] at hR
      subst hR
      exact fin1 (H1 := [imm I]) (fun w hs => sat_to [0] 0 rfl hs) rfl (rr_tmp rfl) ⟨rfl, rfl⟩
    refine ow_slots (L' := [(0, .int .i64 x0), (1, .int .i64 x1), (2, .int .i64 x2), (3, .int .i64 x3), (4, .string x4), (23, .bool false)]) (by rw [h22]) ?_
    refine ow_vals 3 (j := 6) [0, 1, 2, 3, 4, 26] [(0, .int .i64 x0), (1, .int .i64 x1), (2, .int .i64 x2), (3, .int .i64 x3), (4, .string x4), (26, .bool (decide (x0 > 100)))] rfl (by kernel_rfl) ?_
    refine ow_end rfl ?_
    refine ew_then ?_
    rcases if_some hF with ⟨h25, hF⟩ | ⟨h25, hF⟩
    · refine cw_cond_t rfl rfl h25 ?_
      refine cw_seq ?_
      refine cw_region ?_
      obtain ⟨r26, h27, hF⟩ := bind_some hF
      refine ow_pw rfl (pw_call (F := [] ++ F0) rfl rfl rfl rfl rfl rfl rfl (by kernel_rfl) (perm_of_pulls [0] rfl) (c_law12_awake _ r26 h27) ?_)
      rintro _ _ ⟨rfl, rfl⟩
      refine nw_H (H' := [imm I] ++ F0) rfl (nw_ow ?_)
      refine ow_vals 1 (j := 2) [10] [(10, .bool r26)] rfl (by kernel_rfl) ?_
      refine ow_end rfl ?_
      refine ew_then ?_
      refine cw_ret ?_
      refine ew_then_ret ?_
      have hR := Option.some.inj hF
      subst hR
      have hR := hK21
      try dsimp only [Thru] at hR
      subst hR
      exact fin1 (H1 := [imm I]) (fun w hs => sat_to [0] 0 rfl hs) rfl (rr_tmp rfl) ⟨rfl, rfl⟩
    refine cw_cond_f rfl rfl h25 ?_
    refine cw_skip ?_
    have hR := Option.some.inj hF
    exact fun a w hf hs => ⟨hR, hf.keep [0, 1, 2, 3, 4], sat_to [0] 0 rfl hs⟩
  rintro a w ⟨hv, hf, hs⟩
  subst hv
  replace hF := hK21
  clear hK21
  try dsimp only [Thru] at hF
  revert a w
  show CW _ _ _ 166 [(0, .int .i64 x0), (1, .int .i64 x1), (2, .int .i64 x2), (3, .int .i64 x3), (4, .string x4)] (SAT w0 ([imm I] ++ F0))
  unfold F.law12_JournalOpens.r1 at hF
  refine cw_seq ?_
  refine cw_region ?_
  refine ow_vals 1 (j := 1) [0, 1, 2, 3, 4, 29] [(0, .int .i64 x0), (1, .int .i64 x1), (2, .int .i64 x2), (3, .int .i64 x3), (4, .string x4), (29, .int .i64 x0)] rfl (by kernel_rfl) ?_
  obtain ⟨r28, h29, hF⟩ := bind_some hF
  refine ow_pw rfl (pw_call (F := [] ++ F0) rfl rfl rfl rfl rfl rfl rfl (by kernel_rfl) (perm_of_pulls [0] rfl) (c_disk_New _ x0 r28 h29) ?_)
  rintro _ _ (⟨hO, rfl, rfl⟩ | ⟨r28_s1, r28_b2, r28_p4, r28_c5, r28_b7, hO, rfl, rfl⟩)
  · rw [hO] at hF
    try dsimp only [optC] at hF
    refine nw_H (H' := [imm I] ++ F0) rfl (nw_ow ?_)
    refine ow_vals 5 (j := 7) [0, 1, 2, 3, 4, 11, 12] [(0, .int .i64 x0), (1, .int .i64 x1), (2, .int .i64 x2), (3, .int .i64 x3), (4, .string x4), (11, .pointer none), (12, .int .i64 1)] rfl (by kernel_rfl) ?_
    refine ow_end rfl ?_
    refine ew_then ?_
    refine cw_seq ?_
    refine cw_region ?_
    refine ow_vals 1 (j := 1) [0, 1, 2, 3, 4, 11, 12, 34] [(0, .int .i64 x0), (1, .int .i64 x1), (2, .int .i64 x2), (3, .int .i64 x3), (4, .string x4), (11, .pointer none), (12, .int .i64 1), (34, .pointer none)] rfl (by kernel_rfl) ?_
    obtain ⟨r33, h34, hF⟩ := bind_some hF
    refine ow_pw rfl (pw_call (F := [] ++ F0) rfl rfl rfl rfl rfl rfl rfl (by kernel_rfl) (perm_of_pulls [0] rfl) (c_guard_New_1 _ 1 r33 h34) ?_)
    rintro _ _ (⟨hO, rfl, rfl⟩ | ⟨r33_s1, r33_b2, hO, rfl, rfl⟩)
    · rw [hO] at hF
      try dsimp only [optC] at hF
      refine nw_H (H' := [imm I] ++ F0) rfl (nw_ow ?_)
      refine ow_vals 5 (j := 7) [0, 1, 2, 3, 4, 11, 12, 13, 14] [(0, .int .i64 x0), (1, .int .i64 x1), (2, .int .i64 x2), (3, .int .i64 x3), (4, .string x4), (11, .pointer none), (12, .int .i64 1), (13, .pointer none), (14, .int .i64 1)] rfl (by kernel_rfl) ?_
      refine ow_end rfl ?_
      refine ew_then ?_
      refine cw_seq ?_
      refine cw_seq ?_
      refine cw_region ?_
      refine ow_vals 6 (j := 6) [0, 1, 2, 3, 4, 11, 13, 43] [(0, .int .i64 x0), (1, .int .i64 x1), (2, .int .i64 x2), (3, .int .i64 x3), (4, .string x4), (11, .pointer none), (13, .pointer none), (43, .bool true)] rfl (by kernel_rfl) ?_
      refine ow_end rfl ?_
      refine ew_then ?_
      refine cw_cond_t rfl rfl rfl ?_
      refine cw_seq ?_
      refine cw_region ?_
      refine ow_vals 1 (j := 1) [10] [(10, .bool false)] rfl (by kernel_rfl) ?_
      refine ow_end rfl ?_
      refine ew_then ?_
      refine cw_ret ?_
      refine ew_then_ret ?_
      have hR := Option.some.inj hF
      subst hR
      exact fin1 (H1 := [imm I]) (fun w hs => sat_to [0] 0 rfl hs) rfl (rr_tmp rfl) ⟨rfl, rfl⟩
    rw [hO] at hF
    try dsimp only [optC] at hF
    refine nw_H (H' := [imm I, pt r33_b2 #[.pointer none, .int .i64 r33_s1.boot_, .int .i64 r33_s1.n_] 72] ++ F0) rfl (nw_ow ?_)
    refine ow_vals 5 (j := 7) [0, 1, 2, 3, 4, 11, 12, 13, 14] [(0, .int .i64 x0), (1, .int .i64 x1), (2, .int .i64 x2), (3, .int .i64 x3), (4, .string x4), (11, .pointer none), (12, .int .i64 1), (13, .pointer (some ⟨r33_b2, 0, none⟩)), (14, .int .i64 0)] rfl (by kernel_rfl) ?_
    refine ow_end rfl ?_
    refine ew_then ?_
    refine cw_seq ?_
    refine cw_seq ?_
    refine cw_region ?_
    refine ow_vals 6 (j := 6) [0, 1, 2, 3, 4, 11, 13, 43] [(0, .int .i64 x0), (1, .int .i64 x1), (2, .int .i64 x2), (3, .int .i64 x3), (4, .string x4), (11, .pointer none), (13, .pointer (some ⟨r33_b2, 0, none⟩)), (43, .bool true)] rfl (by kernel_rfl) ?_
    refine ow_end rfl ?_
    refine ew_then ?_
    refine cw_cond_t rfl rfl rfl ?_
    refine cw_seq ?_
    refine cw_region ?_
    refine ow_vals 1 (j := 1) [10] [(10, .bool false)] rfl (by kernel_rfl) ?_
    refine ow_end rfl ?_
    refine ew_then ?_
    refine cw_ret ?_
    refine ew_then_ret ?_
    have hR := Option.some.inj hF
    subst hR
    exact fin1 (H1 := [imm I]) (fun w hs => sat_to [1, 0] 1 rfl hs) rfl (rr_tmp rfl) ⟨rfl, rfl⟩
  rw [hO] at hF
  try dsimp only [optC] at hF
  refine nw_H (H' := [imm I, pt r28_b2 #[.slice r28_p4 r28_s1.sure_.length r28_c5, .map (some r28_b7), .bool r28_s1.off_, .bool r28_s1.armed_, .int .i64 r28_s1.left_, .int .u64 r28_s1.fall_.Keep, .int .i64 r28_s1.fall_.Tear, .int .i64 r28_s1.acts_, .int .i64 r28_s1.falls_] 62, own e_disk_sector 65 r28_p4 r28_c5 r28_s1.sure_, mpo (kInt .i64) (fun x : disk_sector => Value.agg #[.string x.s_, .int .i64 x.at_]) r28_b7 r28_s1.wait_] ++ F0) rfl (nw_ow ?_)
  refine ow_vals 5 (j := 7) [0, 1, 2, 3, 4, 11, 12] [(0, .int .i64 x0), (1, .int .i64 x1), (2, .int .i64 x2), (3, .int .i64 x3), (4, .string x4), (11, .pointer (some ⟨r28_b2, 0, none⟩)), (12, .int .i64 0)] rfl (by kernel_rfl) ?_
  refine ow_end rfl ?_
  refine ew_then ?_
  refine cw_seq ?_
  refine cw_region ?_
  refine ow_vals 1 (j := 1) [0, 1, 2, 3, 4, 11, 12, 34] [(0, .int .i64 x0), (1, .int .i64 x1), (2, .int .i64 x2), (3, .int .i64 x3), (4, .string x4), (11, .pointer (some ⟨r28_b2, 0, none⟩)), (12, .int .i64 0), (34, .pointer (some ⟨r28_b2, 0, none⟩))] rfl (by kernel_rfl) ?_
  obtain ⟨r38, h39, hF⟩ := bind_some hF
  refine ow_pw rfl (pw_call (F := [] ++ F0) rfl rfl rfl rfl rfl rfl rfl (by kernel_rfl) (perm_of_pulls [0, 0, 0, 0] rfl) (c_guard_New _ 1 r28_s1 r28_p4 r28_c5 r28_b7 r28_b2 r38 h39) ?_)
  rintro _ _ (⟨hO, rfl, rfl⟩ | ⟨r38_s1, r38_b2, hO, rfl, rfl⟩)
  · rw [hO] at hF
    try dsimp only [optC] at hF
    refine nw_H (H' := [imm I, pt r28_b2 #[.slice r28_p4 r28_s1.sure_.length r28_c5, .map (some r28_b7), .bool r28_s1.off_, .bool r28_s1.armed_, .int .i64 r28_s1.left_, .int .u64 r28_s1.fall_.Keep, .int .i64 r28_s1.fall_.Tear, .int .i64 r28_s1.acts_, .int .i64 r28_s1.falls_] 62, own e_disk_sector 65 r28_p4 r28_c5 r28_s1.sure_, mpo (kInt .i64) (fun x : disk_sector => Value.agg #[.string x.s_, .int .i64 x.at_]) r28_b7 r28_s1.wait_] ++ F0) rfl (nw_ow ?_)
    refine ow_vals 5 (j := 7) [0, 1, 2, 3, 4, 11, 12, 13, 14] [(0, .int .i64 x0), (1, .int .i64 x1), (2, .int .i64 x2), (3, .int .i64 x3), (4, .string x4), (11, .pointer (some ⟨r28_b2, 0, none⟩)), (12, .int .i64 0), (13, .pointer none), (14, .int .i64 1)] rfl (by kernel_rfl) ?_
    refine ow_end rfl ?_
    refine ew_then ?_
    refine cw_seq ?_
    refine cw_seq ?_
    refine cw_region ?_
    refine ow_vals 6 (j := 6) [0, 1, 2, 3, 4, 11, 13, 43] [(0, .int .i64 x0), (1, .int .i64 x1), (2, .int .i64 x2), (3, .int .i64 x3), (4, .string x4), (11, .pointer (some ⟨r28_b2, 0, none⟩)), (13, .pointer none), (43, .bool true)] rfl (by kernel_rfl) ?_
    refine ow_end rfl ?_
    refine ew_then ?_
    refine cw_cond_t rfl rfl rfl ?_
    refine cw_seq ?_
    refine cw_region ?_
    refine ow_vals 1 (j := 1) [10] [(10, .bool false)] rfl (by kernel_rfl) ?_
    refine ow_end rfl ?_
    refine ew_then ?_
    refine cw_ret ?_
    refine ew_then_ret ?_
    have hR := Option.some.inj hF
    subst hR
    exact fin1 (H1 := [imm I]) (fun w hs => sat_to [1, 1, 1, 0] 3 rfl hs) rfl (rr_tmp rfl) ⟨rfl, rfl⟩
  rw [hO] at hF
  try dsimp only [optC] at hF
  refine nw_H (H' := [imm I, pt r28_b2 #[.slice r28_p4 r28_s1.sure_.length r28_c5, .map (some r28_b7), .bool r28_s1.off_, .bool r28_s1.armed_, .int .i64 r28_s1.left_, .int .u64 r28_s1.fall_.Keep, .int .i64 r28_s1.fall_.Tear, .int .i64 r28_s1.acts_, .int .i64 r28_s1.falls_] 62, pt r38_b2 #[.pointer (some ⟨r28_b2, 0, none⟩), .int .i64 r38_s1.boot_, .int .i64 r38_s1.n_] 72, own e_disk_sector 65 r28_p4 r28_c5 r28_s1.sure_, mpo (kInt .i64) (fun x : disk_sector => Value.agg #[.string x.s_, .int .i64 x.at_]) r28_b7 r28_s1.wait_] ++ F0) rfl (nw_ow ?_)
  refine ow_vals 5 (j := 7) [0, 1, 2, 3, 4, 11, 12, 13, 14] [(0, .int .i64 x0), (1, .int .i64 x1), (2, .int .i64 x2), (3, .int .i64 x3), (4, .string x4), (11, .pointer (some ⟨r28_b2, 0, none⟩)), (12, .int .i64 0), (13, .pointer (some ⟨r38_b2, 0, none⟩)), (14, .int .i64 0)] rfl (by kernel_rfl) ?_
  refine ow_end rfl ?_
  refine ew_then ?_
  obtain ⟨v42, hF, hK42⟩ := bind_some hF
  refine cw_mid (fun a w => () = v42 ∧ Fr 166 [(0, .int .i64 x0), (1, .int .i64 x1), (2, .int .i64 x2), (3, .int .i64 x3), (4, .string x4), (11, .pointer (some ⟨r28_b2, 0, none⟩)), (13, .pointer (some ⟨r38_b2, 0, none⟩))] a ∧ SAT w0 ([imm I, pt r28_b2 #[.slice r28_p4 r28_s1.sure_.length r28_c5, .map (some r28_b7), .bool r28_s1.off_, .bool r28_s1.armed_, .int .i64 r28_s1.left_, .int .u64 r28_s1.fall_.Keep, .int .i64 r28_s1.fall_.Tear, .int .i64 r28_s1.acts_, .int .i64 r28_s1.falls_] 62, pt r38_b2 #[.pointer (some ⟨r28_b2, 0, none⟩), .int .i64 r38_s1.boot_, .int .i64 r38_s1.n_] 72, own e_disk_sector 65 r28_p4 r28_c5 r28_s1.sure_, mpo (kInt .i64) (fun x : disk_sector => Value.agg #[.string x.s_, .int .i64 x.at_]) r28_b7 r28_s1.wait_] ++ F0) w) ?_ ?_
  · refine cw_seq ?_
    refine cw_region ?_
    refine ow_vals 6 (j := 6) [0, 1, 2, 3, 4, 11, 13, 43] [(0, .int .i64 x0), (1, .int .i64 x1), (2, .int .i64 x2), (3, .int .i64 x3), (4, .string x4), (11, .pointer (some ⟨r28_b2, 0, none⟩)), (13, .pointer (some ⟨r38_b2, 0, none⟩)), (43, .bool false)] rfl (by kernel_rfl) ?_
    refine ow_end rfl ?_
    refine ew_then ?_
    refine cw_cond_f rfl rfl rfl ?_
    refine cw_skip ?_
    have hR := Option.some.inj hF
    exact fun a w hf hs => ⟨hR, hf.keep [0, 1, 2, 3, 4, 11, 13], sat_to [0, 0, 0, 0, 0] 0 rfl hs⟩
  rintro a w ⟨hv, hf, hs⟩
  subst hv
  replace hF := hK42
  clear hK42
  try dsimp only at hF
  revert a w
  show CW _ _ _ 166 [(0, .int .i64 x0), (1, .int .i64 x1), (2, .int .i64 x2), (3, .int .i64 x3), (4, .string x4), (11, .pointer (some ⟨r28_b2, 0, none⟩)), (13, .pointer (some ⟨r38_b2, 0, none⟩))] (SAT w0 ([imm I, pt r28_b2 #[.slice r28_p4 r28_s1.sure_.length r28_c5, .map (some r28_b7), .bool r28_s1.off_, .bool r28_s1.armed_, .int .i64 r28_s1.left_, .int .u64 r28_s1.fall_.Keep, .int .i64 r28_s1.fall_.Tear, .int .i64 r28_s1.acts_, .int .i64 r28_s1.falls_] 62, pt r38_b2 #[.pointer (some ⟨r28_b2, 0, none⟩), .int .i64 r38_s1.boot_, .int .i64 r38_s1.n_] 72, own e_disk_sector 65 r28_p4 r28_c5 r28_s1.sure_, mpo (kInt .i64) (fun x : disk_sector => Value.agg #[.string x.s_, .int .i64 x.at_]) r28_b7 r28_s1.wait_] ++ F0))
  unfold F.law12_JournalOpens.r2 at hF
  refine cw_seq ?_
  refine cw_region ?_
  refine ow_vals 1 (j := 1) [0, 1, 2, 3, 4, 13, 44] [(0, .int .i64 x0), (1, .int .i64 x1), (2, .int .i64 x2), (3, .int .i64 x3), (4, .string x4), (13, .pointer (some ⟨r38_b2, 0, none⟩)), (44, .pointer (some ⟨r28_b2, 0, none⟩))] rfl (by kernel_rfl) ?_
  obtain ⟨r43, h44, hF⟩ := bind_some hF
  refine ow_pw rfl (pw_call (F := [pt r38_b2 #[.pointer (some ⟨r28_b2, 0, none⟩), .int .i64 r38_s1.boot_, .int .i64 r38_s1.n_] 72] ++ F0) rfl rfl rfl rfl rfl rfl rfl (by kernel_rfl) (perm_of_pulls [0, 0, 1, 1] rfl) (c_law12_open _ 1 r28_s1 r28_p4 r28_c5 r28_b7 r28_b2 r43 h44) ?_)
  rintro _ _ (⟨hO, rfl, rfl⟩ | ⟨r43_s1, r43_b2, r43_b4, r43_p6, r43_c7, hO, rfl, rfl⟩)
  · rw [hO] at hF
    try dsimp only [optC] at hF
    refine nw_H (H' := [imm I, pt r28_b2 #[.slice r28_p4 r28_s1.sure_.length r28_c5, .map (some r28_b7), .bool r28_s1.off_, .bool r28_s1.armed_, .int .i64 r28_s1.left_, .int .u64 r28_s1.fall_.Keep, .int .i64 r28_s1.fall_.Tear, .int .i64 r28_s1.acts_, .int .i64 r28_s1.falls_] 62, own e_disk_sector 65 r28_p4 r28_c5 r28_s1.sure_, mpo (kInt .i64) (fun x : disk_sector => Value.agg #[.string x.s_, .int .i64 x.at_]) r28_b7 r28_s1.wait_, pt r38_b2 #[.pointer (some ⟨r28_b2, 0, none⟩), .int .i64 r38_s1.boot_, .int .i64 r38_s1.n_] 72] ++ F0) rfl (nw_ow ?_)
    refine ow_vals 1 (j := 3) [0, 1, 2, 3, 4, 13, 15] [(0, .int .i64 x0), (1, .int .i64 x1), (2, .int .i64 x2), (3, .int .i64 x3), (4, .string x4), (13, .pointer (some ⟨r38_b2, 0, none⟩)), (15, .pointer none)] rfl (by kernel_rfl) ?_
    refine ow_end rfl ?_
    refine ew_then ?_
    obtain ⟨v48, hF, hK48⟩ := bind_some hF
    refine cw_mid (fun a w => () = v48 ∧ Fr 166 [(0, .int .i64 x0), (1, .int .i64 x1), (2, .int .i64 x2), (3, .int .i64 x3), (13, .pointer (some ⟨r38_b2, 0, none⟩)), (15, .pointer none)] a ∧ SAT w0 ([imm I, pt r28_b2 #[.slice r28_p4 r28_s1.sure_.length r28_c5, .map (some r28_b7), .bool r28_s1.off_, .bool r28_s1.armed_, .int .i64 r28_s1.left_, .int .u64 r28_s1.fall_.Keep, .int .i64 r28_s1.fall_.Tear, .int .i64 r28_s1.acts_, .int .i64 r28_s1.falls_] 62, pt r38_b2 #[.pointer (some ⟨r28_b2, 0, none⟩), .int .i64 r38_s1.boot_, .int .i64 r38_s1.n_] 72, own e_disk_sector 65 r28_p4 r28_c5 r28_s1.sure_, mpo (kInt .i64) (fun x : disk_sector => Value.agg #[.string x.s_, .int .i64 x.at_]) r28_b7 r28_s1.wait_] ++ F0) w) ?_ ?_
    · refine cw_seq ?_
      refine cw_region ?_
      refine ow_vals 2 (j := 2) [0, 1, 2, 3, 4, 13, 15, 47] [(0, .int .i64 x0), (1, .int .i64 x1), (2, .int .i64 x2), (3, .int .i64 x3), (4, .string x4), (13, .pointer (some ⟨r38_b2, 0, none⟩)), (15, .pointer none), (47, .bool false)] rfl (by kernel_rfl) ?_
      refine ow_end rfl ?_
      refine ew_then ?_
      refine cw_cond_f rfl rfl rfl ?_
      refine cw_skip ?_
      have hR := Option.some.inj hF
      exact fun a w hf hs => ⟨hR, hf.keep [0, 1, 2, 3, 13, 15], sat_to [0, 0, 2, 0, 0] 0 rfl hs⟩
    rintro a w ⟨hv, hf, hs⟩
    subst hv
    replace hF := hK48
    clear hK48
    try dsimp only at hF
    revert a w
    show CW _ _ _ 166 [(0, .int .i64 x0), (1, .int .i64 x1), (2, .int .i64 x2), (3, .int .i64 x3), (13, .pointer (some ⟨r38_b2, 0, none⟩)), (15, .pointer none)] (SAT w0 ([imm I, pt r28_b2 #[.slice r28_p4 r28_s1.sure_.length r28_c5, .map (some r28_b7), .bool r28_s1.off_, .bool r28_s1.armed_, .int .i64 r28_s1.left_, .int .u64 r28_s1.fall_.Keep, .int .i64 r28_s1.fall_.Tear, .int .i64 r28_s1.acts_, .int .i64 r28_s1.falls_] 62, pt r38_b2 #[.pointer (some ⟨r28_b2, 0, none⟩), .int .i64 r38_s1.boot_, .int .i64 r38_s1.n_] 72, own e_disk_sector 65 r28_p4 r28_c5 r28_s1.sure_, mpo (kInt .i64) (fun x : disk_sector => Value.agg #[.string x.s_, .int .i64 x.at_]) r28_b7 r28_s1.wait_] ++ F0))
    unfold F.law12_JournalOpens.r3 at hF
    refine cw_seq ?_
    refine cw_region ?_
    refine ow_vals 4 (j := 4) [0, 1, 2, 3, 15, 52, 53, 54, 55] [(0, .int .i64 x0), (1, .int .i64 x1), (2, .int .i64 x2), (3, .int .i64 x3), (15, .pointer none), (52, .pointer (some ⟨r38_b2, 0, none⟩)), (53, .int .i64 x1), (54, .int .i64 x2), (55, .int .i64 x3)] rfl (by kernel_rfl) ?_
    obtain ⟨r49, h50, hF⟩ := bind_some hF
    refine ow_pw rfl (pw_call (F := [] ++ F0) rfl rfl rfl rfl rfl rfl rfl (by kernel_rfl) (perm_of_pulls [0, 1, 0, 0, 0] rfl) (c_journal_Open _ x1 x2 x3 r38_s1 r28_s1 r38_b2 r28_p4 r28_c5 r28_b7 r28_b2 r49 h50) ?_)
    rintro _ _ (⟨hO, rfl, rfl⟩ | ⟨r49_s1, r49_b2, r49_p4, r49_c5, hO, rfl, rfl⟩)
    · rw [hO] at hF
      try dsimp only [optC] at hF
      refine nw_H (H' := [imm I, pt r38_b2 #[.pointer (some ⟨r28_b2, 0, none⟩), .int .i64 r38_s1.boot_, .int .i64 r38_s1.n_] 72, pt r28_b2 #[.slice r28_p4 r28_s1.sure_.length r28_c5, .map (some r28_b7), .bool r28_s1.off_, .bool r28_s1.armed_, .int .i64 r28_s1.left_, .int .u64 r28_s1.fall_.Keep, .int .i64 r28_s1.fall_.Tear, .int .i64 r28_s1.acts_, .int .i64 r28_s1.falls_] 62, own e_disk_sector 65 r28_p4 r28_c5 r28_s1.sure_, mpo (kInt .i64) (fun x : disk_sector => Value.agg #[.string x.s_, .int .i64 x.at_]) r28_b7 r28_s1.wait_] ++ F0) rfl (nw_ow ?_)
      refine ow_vals 5 (j := 10) [0, 1, 2, 3, 15, 16, 17] [(0, .int .i64 x0), (1, .int .i64 x1), (2, .int .i64 x2), (3, .int .i64 x3), (15, .pointer none), (16, .pointer none), (17, .int .i64 r49.2)] rfl (by kernel_rfl) ?_
      refine ow_end rfl ?_
      refine ew_then ?_
      refine cw_seq ?_
      refine cw_region ?_
      refine ow_vals 3 (j := 3) [0, 1, 2, 3, 15, 16, 17, 60, 61, 62] [(0, .int .i64 x0), (1, .int .i64 x1), (2, .int .i64 x2), (3, .int .i64 x3), (15, .pointer none), (16, .pointer none), (17, .int .i64 r49.2), (60, .int .i64 x1), (61, .int .i64 x2), (62, .int .i64 x3)] rfl (by kernel_rfl) ?_
      obtain ⟨r53, h54, hF⟩ := bind_some hF
      refine ow_pw rfl (pw_call (F := [pt r38_b2 #[.pointer (some ⟨r28_b2, 0, none⟩), .int .i64 r38_s1.boot_, .int .i64 r38_s1.n_] 72, pt r28_b2 #[.slice r28_p4 r28_s1.sure_.length r28_c5, .map (some r28_b7), .bool r28_s1.off_, .bool r28_s1.armed_, .int .i64 r28_s1.left_, .int .u64 r28_s1.fall_.Keep, .int .i64 r28_s1.fall_.Tear, .int .i64 r28_s1.acts_, .int .i64 r28_s1.falls_] 62, own e_disk_sector 65 r28_p4 r28_c5 r28_s1.sure_, mpo (kInt .i64) (fun x : disk_sector => Value.agg #[.string x.s_, .int .i64 x.at_]) r28_b7 r28_s1.wait_] ++ F0) rfl rfl rfl rfl rfl rfl rfl (by kernel_rfl) (perm_of_pulls [0] rfl) (c_journal_Open_1 _ x1 x2 x3 r53 h54) ?_)
      rintro _ _ ⟨rfl, rfl⟩
      refine nw_H (H' := [imm I, pt r38_b2 #[.pointer (some ⟨r28_b2, 0, none⟩), .int .i64 r38_s1.boot_, .int .i64 r38_s1.n_] 72, pt r28_b2 #[.slice r28_p4 r28_s1.sure_.length r28_c5, .map (some r28_b7), .bool r28_s1.off_, .bool r28_s1.armed_, .int .i64 r28_s1.left_, .int .u64 r28_s1.fall_.Keep, .int .i64 r28_s1.fall_.Tear, .int .i64 r28_s1.acts_, .int .i64 r28_s1.falls_] 62, own e_disk_sector 65 r28_p4 r28_c5 r28_s1.sure_, mpo (kInt .i64) (fun x : disk_sector => Value.agg #[.string x.s_, .int .i64 x.at_]) r28_b7 r28_s1.wait_] ++ F0) rfl (nw_ow ?_)
      refine ow_vals 5 (j := 9) [0, 1, 2, 3, 15, 16, 17, 18, 19] [(0, .int .i64 x0), (1, .int .i64 x1), (2, .int .i64 x2), (3, .int .i64 x3), (15, .pointer none), (16, .pointer none), (17, .int .i64 r49.2), (18, .pointer none), (19, .int .i64 r53)] rfl (by kernel_rfl) ?_
      refine ow_end rfl ?_
      refine ew_then ?_
      obtain ⟨v55, hF, hK55⟩ := thru_some hF
      refine cw_mid (fun a w => .inl () = v55 ∧ Fr 166 [(0, .int .i64 x0), (1, .int .i64 x1), (2, .int .i64 x2), (3, .int .i64 x3), (15, .pointer none), (16, .pointer none), (17, .int .i64 r49.2)] a ∧ SAT w0 ([imm I, pt r38_b2 #[.pointer (some ⟨r28_b2, 0, none⟩), .int .i64 r38_s1.boot_, .int .i64 r38_s1.n_] 72, pt r28_b2 #[.slice r28_p4 r28_s1.sure_.length r28_c5, .map (some r28_b7), .bool r28_s1.off_, .bool r28_s1.armed_, .int .i64 r28_s1.left_, .int .u64 r28_s1.fall_.Keep, .int .i64 r28_s1.fall_.Tear, .int .i64 r28_s1.acts_, .int .i64 r28_s1.falls_] 62, own e_disk_sector 65 r28_p4 r28_c5 r28_s1.sure_, mpo (kInt .i64) (fun x : disk_sector => Value.agg #[.string x.s_, .int .i64 x.at_]) r28_b7 r28_s1.wait_] ++ F0) w) ?_ ?_
      · refine cw_seq ?_
        refine cw_region ?_
        refine ow_vals 6 (j := 6) [0, 1, 2, 3, 15, 16, 17, 71] [(0, .int .i64 x0), (1, .int .i64 x1), (2, .int .i64 x2), (3, .int .i64 x3), (15, .pointer none), (16, .pointer none), (17, .int .i64 r49.2), (71, .bool (r53 != 1))] rfl (by kernel_rfl) ?_
        refine ow_end rfl ?_
        refine ew_then ?_
        rcases if_some hF with ⟨h56, hF⟩ | ⟨h56, hF⟩
        · refine cw_cond_t rfl rfl h56 ?_
          refine cw_seq ?_
          refine cw_region ?_
          refine ow_vals 1 (j := 1) [10] [(10, .bool false)] rfl (by kernel_rfl) ?_
          refine ow_end rfl ?_
          refine ew_then ?_
          refine cw_ret ?_
          refine ew_then_ret ?_
          have hR := Option.some.inj hF
          subst hR
          have hR := hK55
          try dsimp only [Thru] at hR
          subst hR
          exact fin1 (H1 := [imm I]) (fun w hs => sat_to [1, 1, 1, 1, 0] 4 rfl hs) rfl (rr_tmp rfl) ⟨rfl, rfl⟩
        refine cw_cond_f rfl rfl h56 ?_
        refine cw_skip ?_
        have hR := Option.some.inj hF
        exact fun a w hf hs => ⟨hR, hf.keep [0, 1, 2, 3, 15, 16, 17], sat_to [0, 0, 0, 0, 0] 0 rfl hs⟩
      rintro a w ⟨hv, hf, hs⟩
      subst hv
      replace hF := hK55
      clear hK55
      try dsimp only [Thru] at hF
      revert a w
      show CW _ _ _ 166 [(0, .int .i64 x0), (1, .int .i64 x1), (2, .int .i64 x2), (3, .int .i64 x3), (15, .pointer none), (16, .pointer none), (17, .int .i64 r49.2)] (SAT w0 ([imm I, pt r38_b2 #[.pointer (some ⟨r28_b2, 0, none⟩), .int .i64 r38_s1.boot_, .int .i64 r38_s1.n_] 72, pt r28_b2 #[.slice r28_p4 r28_s1.sure_.length r28_c5, .map (some r28_b7), .bool r28_s1.off_, .bool r28_s1.armed_, .int .i64 r28_s1.left_, .int .u64 r28_s1.fall_.Keep, .int .i64 r28_s1.fall_.Tear, .int .i64 r28_s1.acts_, .int .i64 r28_s1.falls_] 62, own e_disk_sector 65 r28_p4 r28_c5 r28_s1.sure_, mpo (kInt .i64) (fun x : disk_sector => Value.agg #[.string x.s_, .int .i64 x.at_]) r28_b7 r28_s1.wait_] ++ F0))
      unfold F.law12_JournalOpens.r4 at hF
      obtain ⟨v57, hF, hK57⟩ := thru_some hF
      refine cw_mid (fun a w => .inl () = v57 ∧ Fr 166 [(0, .int .i64 x0), (1, .int .i64 x1), (2, .int .i64 x2), (3, .int .i64 x3), (15, .pointer none), (16, .pointer none), (17, .int .i64 r49.2)] a ∧ SAT w0 ([imm I, pt r38_b2 #[.pointer (some ⟨r28_b2, 0, none⟩), .int .i64 r38_s1.boot_, .int .i64 r38_s1.n_] 72, pt r28_b2 #[.slice r28_p4 r28_s1.sure_.length r28_c5, .map (some r28_b7), .bool r28_s1.off_, .bool r28_s1.armed_, .int .i64 r28_s1.left_, .int .u64 r28_s1.fall_.Keep, .int .i64 r28_s1.fall_.Tear, .int .i64 r28_s1.acts_, .int .i64 r28_s1.falls_] 62, own e_disk_sector 65 r28_p4 r28_c5 r28_s1.sure_, mpo (kInt .i64) (fun x : disk_sector => Value.agg #[.string x.s_, .int .i64 x.at_]) r28_b7 r28_s1.wait_] ++ F0) w) ?_ ?_
      · obtain ⟨v58, hF, hK58⟩ := bind_some hF
        refine cw_mid (fun a w => ∃ (x62 : Bool), x62 = v58 ∧ Fr 166 [(0, .int .i64 x0), (1, .int .i64 x1), (2, .int .i64 x2), (3, .int .i64 x3), (15, .pointer none), (16, .pointer none), (17, .int .i64 r49.2), (85, .bool x62)] a ∧ SAT w0 ([imm I, pt r38_b2 #[.pointer (some ⟨r28_b2, 0, none⟩), .int .i64 r38_s1.boot_, .int .i64 r38_s1.n_] 72, pt r28_b2 #[.slice r28_p4 r28_s1.sure_.length r28_c5, .map (some r28_b7), .bool r28_s1.off_, .bool r28_s1.armed_, .int .i64 r28_s1.left_, .int .u64 r28_s1.fall_.Keep, .int .i64 r28_s1.fall_.Tear, .int .i64 r28_s1.acts_, .int .i64 r28_s1.falls_] 62, own e_disk_sector 65 r28_p4 r28_c5 r28_s1.sure_, mpo (kInt .i64) (fun x : disk_sector => Value.agg #[.string x.s_, .int .i64 x.at_]) r28_b7 r28_s1.wait_] ++ F0) w) ?_ ?_
        · refine cw_region ?_
          refine ow_vals 3 (j := 3) [0, 1, 2, 3, 15, 16, 17, 74] [(0, .int .i64 x0), (1, .int .i64 x1), (2, .int .i64 x2), (3, .int .i64 x3), (15, .pointer none), (16, .pointer none), (17, .int .i64 r49.2), (74, .bool (decide (x1 < 0)))] rfl (by kernel_rfl) ?_
          rcases if_some hF with ⟨h59, hF⟩ | ⟨h59, hF⟩
          · refine ow_slots (L' := [(0, .int .i64 x0), (1, .int .i64 x1), (2, .int .i64 x2), (3, .int .i64 x3), (15, .pointer none), (16, .pointer none), (17, .int .i64 r49.2), (74, .bool true)]) (by rw [h59]) ?_
            refine ow_vals 11 (j := 14) [0, 1, 2, 3, 15, 16, 17, 85] [(0, .int .i64 x0), (1, .int .i64 x1), (2, .int .i64 x2), (3, .int .i64 x3), (15, .pointer none), (16, .pointer none), (17, .int .i64 r49.2), (85, .bool true)] rfl (by kernel_rfl) ?_
            refine ow_end rfl ?_
            have hR := Option.some.inj hF
            exact fun a w hf hs => ⟨true, hR, hf.keep [0, 1, 2, 3, 15, 16, 17, 85], sat_to [0, 0, 0, 0, 0] 0 rfl hs⟩
          refine ow_slots (L' := [(0, .int .i64 x0), (1, .int .i64 x1), (2, .int .i64 x2), (3, .int .i64 x3), (15, .pointer none), (16, .pointer none), (17, .int .i64 r49.2), (74, .bool false)]) (by rw [h59]) ?_
          refine ow_vals 4 (j := 7) [0, 1, 2, 3, 15, 16, 17, 78] [(0, .int .i64 x0), (1, .int .i64 x1), (2, .int .i64 x2), (3, .int .i64 x3), (15, .pointer none), (16, .pointer none), (17, .int .i64 r49.2), (78, .bool (decide (x2 < 1)))] rfl (by kernel_rfl) ?_
          rcases if_some hF with ⟨h60, hF⟩ | ⟨h60, hF⟩
          · refine ow_slots (L' := [(0, .int .i64 x0), (1, .int .i64 x1), (2, .int .i64 x2), (3, .int .i64 x3), (15, .pointer none), (16, .pointer none), (17, .int .i64 r49.2), (78, .bool true)]) (by rw [h60]) ?_
            refine ow_vals 7 (j := 14) [0, 1, 2, 3, 15, 16, 17, 85] [(0, .int .i64 x0), (1, .int .i64 x1), (2, .int .i64 x2), (3, .int .i64 x3), (15, .pointer none), (16, .pointer none), (17, .int .i64 r49.2), (85, .bool true)] rfl (by kernel_rfl) ?_
            refine ow_end rfl ?_
            have hR := Option.some.inj hF
            exact fun a w hf hs => ⟨true, hR, hf.keep [0, 1, 2, 3, 15, 16, 17, 85], sat_to [0, 0, 0, 0, 0] 0 rfl hs⟩
          refine ow_slots (L' := [(0, .int .i64 x0), (1, .int .i64 x1), (2, .int .i64 x2), (3, .int .i64 x3), (15, .pointer none), (16, .pointer none), (17, .int .i64 r49.2), (78, .bool false)]) (by rw [h60]) ?_
          refine ow_vals 4 (j := 11) [0, 1, 2, 3, 15, 16, 17, 82] [(0, .int .i64 x0), (1, .int .i64 x1), (2, .int .i64 x2), (3, .int .i64 x3), (15, .pointer none), (16, .pointer none), (17, .int .i64 r49.2), (82, .bool (decide (x3 < 1)))] rfl (by kernel_rfl) ?_
          rcases if_some hF with ⟨h61, hF⟩ | ⟨h61, hF⟩
          · refine ow_slots (L' := [(0, .int .i64 x0), (1, .int .i64 x1), (2, .int .i64 x2), (3, .int .i64 x3), (15, .pointer none), (16, .pointer none), (17, .int .i64 r49.2), (82, .bool true)]) (by rw [h61]) ?_
            refine ow_vals 3 (j := 14) [0, 1, 2, 3, 15, 16, 17, 85] [(0, .int .i64 x0), (1, .int .i64 x1), (2, .int .i64 x2), (3, .int .i64 x3), (15, .pointer none), (16, .pointer none), (17, .int .i64 r49.2), (85, .bool true)] rfl (by kernel_rfl) ?_
            refine ow_end rfl ?_
            have hR := Option.some.inj hF
            exact fun a w hf hs => ⟨true, hR, hf.keep [0, 1, 2, 3, 15, 16, 17, 85], sat_to [0, 0, 0, 0, 0] 0 rfl hs⟩
          refine ow_slots (L' := [(0, .int .i64 x0), (1, .int .i64 x1), (2, .int .i64 x2), (3, .int .i64 x3), (15, .pointer none), (16, .pointer none), (17, .int .i64 r49.2), (82, .bool false)]) (by rw [h61]) ?_
          refine ow_vals 3 (j := 14) [0, 1, 2, 3, 15, 16, 17, 85] [(0, .int .i64 x0), (1, .int .i64 x1), (2, .int .i64 x2), (3, .int .i64 x3), (15, .pointer none), (16, .pointer none), (17, .int .i64 r49.2), (85, .bool (decide (x3 > 4294967295)))] rfl (by kernel_rfl) ?_
          refine ow_end rfl ?_
          have hR := Option.some.inj hF
          exact fun a w hf hs => ⟨decide (x3 > 4294967295), hR, hf.keep [0, 1, 2, 3, 15, 16, 17, 85], sat_to [0, 0, 0, 0, 0] 0 rfl hs⟩
        rintro a w ⟨x62, hv, hf, hs⟩
        subst hv
        replace hF := hK58
        clear hK58
        try dsimp only at hF
        revert a w
        show CW _ _ _ 166 [(0, .int .i64 x0), (1, .int .i64 x1), (2, .int .i64 x2), (3, .int .i64 x3), (15, .pointer none), (16, .pointer none), (17, .int .i64 r49.2), (85, .bool x62)] (SAT w0 ([imm I, pt r38_b2 #[.pointer (some ⟨r28_b2, 0, none⟩), .int .i64 r38_s1.boot_, .int .i64 r38_s1.n_] 72, pt r28_b2 #[.slice r28_p4 r28_s1.sure_.length r28_c5, .map (some r28_b7), .bool r28_s1.off_, .bool r28_s1.armed_, .int .i64 r28_s1.left_, .int .u64 r28_s1.fall_.Keep, .int .i64 r28_s1.fall_.Tear, .int .i64 r28_s1.acts_, .int .i64 r28_s1.falls_] 62, own e_disk_sector 65 r28_p4 r28_c5 r28_s1.sure_, mpo (kInt .i64) (fun x : disk_sector => Value.agg #[.string x.s_, .int .i64 x.at_]) r28_b7 r28_s1.wait_] ++ F0))
        unfold F.law12_JournalOpens.r5 at hF
        rcases if_some hF with ⟨h63, hF⟩ | ⟨h63, hF⟩
        · refine cw_cond_t rfl rfl h63 ?_
          refine cw_seq ?_
          refine cw_region ?_
          refine ow_vals 7 (j := 7) [92] [(92, .bool (r49.2 == 1))] rfl (by kernel_rfl) ?_
          rcases if_some hF with ⟨h64, hF⟩ | ⟨h64, hF⟩
          · refine ow_slots (L' := [(92, .bool true)]) (by rw [h64]) ?_
            obtain ⟨r65, h66, hF⟩ := bind_some hF
            refine ow_pw rfl (pw_call (F := [pt r38_b2 #[.pointer (some ⟨r28_b2, 0, none⟩), .int .i64 r38_s1.boot_, .int .i64 r38_s1.n_] 72, pt r28_b2 #[.slice r28_p4 r28_s1.sure_.length r28_c5, .map (some r28_b7), .bool r28_s1.off_, .bool r28_s1.armed_, .int .i64 r28_s1.left_, .int .u64 r28_s1.fall_.Keep, .int .i64 r28_s1.fall_.Tear, .int .i64 r28_s1.acts_, .int .i64 r28_s1.falls_] 62, own e_disk_sector 65 r28_p4 r28_c5 r28_s1.sure_, mpo (kInt .i64) (fun x : disk_sector => Value.agg #[.string x.s_, .int .i64 x.at_]) r28_b7 r28_s1.wait_] ++ F0) rfl rfl rfl rfl rfl rfl rfl (by kernel_rfl) (perm_of_pulls [0] rfl) (c_law12_awake _ r65 h66) ?_)
            rintro _ _ ⟨rfl, rfl⟩
            refine nw_H (H' := [imm I, pt r38_b2 #[.pointer (some ⟨r28_b2, 0, none⟩), .int .i64 r38_s1.boot_, .int .i64 r38_s1.n_] 72, pt r28_b2 #[.slice r28_p4 r28_s1.sure_.length r28_c5, .map (some r28_b7), .bool r28_s1.off_, .bool r28_s1.armed_, .int .i64 r28_s1.left_, .int .u64 r28_s1.fall_.Keep, .int .i64 r28_s1.fall_.Tear, .int .i64 r28_s1.acts_, .int .i64 r28_s1.falls_] 62, own e_disk_sector 65 r28_p4 r28_c5 r28_s1.sure_, mpo (kInt .i64) (fun x : disk_sector => Value.agg #[.string x.s_, .int .i64 x.at_]) r28_b7 r28_s1.wait_] ++ F0) rfl (nw_ow ?_)
            refine ow_vals 2 (j := 10) [10] [(10, .bool r65)] rfl (by kernel_rfl) ?_
            refine ow_end rfl ?_
            refine ew_then ?_
            refine cw_ret ?_
            refine ew_then_ret ?_
            have hR := Option.some.inj hF
            subst hR
            have hR := hK57
            try dsimp only [Thru] at hR
            subst hR
            exact fin1 (H1 := [imm I]) (fun w hs => sat_to [1, 1, 1, 1, 0] 4 rfl hs) rfl (rr_tmp rfl) ⟨rfl, rfl⟩
          refine ow_slots (L' := [(92, .bool false)]) (by rw [h64]) ?_
          refine ow_vals 3 (j := 10) [10] [(10, .bool false)] rfl (by kernel_rfl) ?_
          refine ow_end rfl ?_
          refine ew_then ?_
          refine cw_ret ?_
          refine ew_then_ret ?_
          have hR := Option.some.inj hF
          subst hR
          have hR := hK57
          try dsimp only [Thru] at hR
          subst hR
          exact fin1 (H1 := [imm I]) (fun w hs => sat_to [1, 1, 1, 1, 0] 4 rfl hs) rfl (rr_tmp rfl) ⟨rfl, rfl⟩
        refine cw_cond_f rfl rfl h63 ?_
        refine cw_skip ?_
        have hR := Option.some.inj hF
        exact fun a w hf hs => ⟨hR, hf.keep [0, 1, 2, 3, 15, 16, 17], sat_to [0, 0, 0, 0, 0] 0 rfl hs⟩
      rintro a w ⟨hv, hf, hs⟩
      subst hv
      replace hF := hK57
      clear hK57
      try dsimp only [Thru] at hF
      revert a w
      show CW _ _ _ 166 [(0, .int .i64 x0), (1, .int .i64 x1), (2, .int .i64 x2), (3, .int .i64 x3), (15, .pointer none), (16, .pointer none), (17, .int .i64 r49.2)] (SAT w0 ([imm I, pt r38_b2 #[.pointer (some ⟨r28_b2, 0, none⟩), .int .i64 r38_s1.boot_, .int .i64 r38_s1.n_] 72, pt r28_b2 #[.slice r28_p4 r28_s1.sure_.length r28_c5, .map (some r28_b7), .bool r28_s1.off_, .bool r28_s1.armed_, .int .i64 r28_s1.left_, .int .u64 r28_s1.fall_.Keep, .int .i64 r28_s1.fall_.Tear, .int .i64 r28_s1.acts_, .int .i64 r28_s1.falls_] 62, own e_disk_sector 65 r28_p4 r28_c5 r28_s1.sure_, mpo (kInt .i64) (fun x : disk_sector => Value.agg #[.string x.s_, .int .i64 x.at_]) r28_b7 r28_s1.wait_] ++ F0))
      unfold F.law12_JournalOpens.r6 at hF
      obtain ⟨v67, hF, hK67⟩ := thru_some hF
      refine cw_mid (fun a w => .inl () = v67 ∧ Fr 166 [(1, .int .i64 x1), (2, .int .i64 x2), (3, .int .i64 x3), (15, .pointer none), (16, .pointer none), (17, .int .i64 r49.2)] a ∧ SAT w0 ([imm I, pt r38_b2 #[.pointer (some ⟨r28_b2, 0, none⟩), .int .i64 r38_s1.boot_, .int .i64 r38_s1.n_] 72, pt r28_b2 #[.slice r28_p4 r28_s1.sure_.length r28_c5, .map (some r28_b7), .bool r28_s1.off_, .bool r28_s1.armed_, .int .i64 r28_s1.left_, .int .u64 r28_s1.fall_.Keep, .int .i64 r28_s1.fall_.Tear, .int .i64 r28_s1.acts_, .int .i64 r28_s1.falls_] 62, own e_disk_sector 65 r28_p4 r28_c5 r28_s1.sure_, mpo (kInt .i64) (fun x : disk_sector => Value.agg #[.string x.s_, .int .i64 x.at_]) r28_b7 r28_s1.wait_] ++ F0) w) ?_ ?_
      · obtain ⟨v68, hF, hK68⟩ := bind_some hF
        refine cw_mid (fun a w => ∃ (x70 : Bool), x70 = v68 ∧ Fr 166 [(1, .int .i64 x1), (2, .int .i64 x2), (3, .int .i64 x3), (15, .pointer none), (16, .pointer none), (17, .int .i64 r49.2), (104, .bool x70)] a ∧ SAT w0 ([imm I, pt r38_b2 #[.pointer (some ⟨r28_b2, 0, none⟩), .int .i64 r38_s1.boot_, .int .i64 r38_s1.n_] 72, pt r28_b2 #[.slice r28_p4 r28_s1.sure_.length r28_c5, .map (some r28_b7), .bool r28_s1.off_, .bool r28_s1.armed_, .int .i64 r28_s1.left_, .int .u64 r28_s1.fall_.Keep, .int .i64 r28_s1.fall_.Tear, .int .i64 r28_s1.acts_, .int .i64 r28_s1.falls_] 62, own e_disk_sector 65 r28_p4 r28_c5 r28_s1.sure_, mpo (kInt .i64) (fun x : disk_sector => Value.agg #[.string x.s_, .int .i64 x.at_]) r28_b7 r28_s1.wait_] ++ F0) w) ?_ ?_
        · refine cw_region ?_
          refine ow_vals 4 (j := 4) [0, 1, 2, 3, 15, 16, 17, 98] [(0, .int .i64 x0), (1, .int .i64 x1), (2, .int .i64 x2), (3, .int .i64 x3), (15, .pointer none), (16, .pointer none), (17, .int .i64 r49.2), (98, .bool (decide (x1 > x0)))] rfl (by kernel_rfl) ?_
          rcases if_some hF with ⟨h69, hF⟩ | ⟨h69, hF⟩
          · refine ow_slots (L' := [(0, .int .i64 x0), (1, .int .i64 x1), (2, .int .i64 x2), (3, .int .i64 x3), (15, .pointer none), (16, .pointer none), (17, .int .i64 r49.2), (98, .bool true)]) (by rw [h69]) ?_
            refine ow_vals 6 (j := 10) [1, 2, 3, 15, 16, 17, 104] [(1, .int .i64 x1), (2, .int .i64 x2), (3, .int .i64 x3), (15, .pointer none), (16, .pointer none), (17, .int .i64 r49.2), (104, .bool true)] rfl (by kernel_rfl) ?_
            refine ow_end rfl ?_
            have hR := Option.some.inj hF
            exact fun a w hf hs => ⟨true, hR, hf.keep [1, 2, 3, 15, 16, 17, 104], sat_to [0, 0, 0, 0, 0] 0 rfl hs⟩
          refine ow_slots (L' := [(0, .int .i64 x0), (1, .int .i64 x1), (2, .int .i64 x2), (3, .int .i64 x3), (15, .pointer none), (16, .pointer none), (17, .int .i64 r49.2), (98, .bool false)]) (by rw [h69]) ?_
          refine ow_vals 6 (j := 10) [1, 2, 3, 15, 16, 17, 104] [(1, .int .i64 x1), (2, .int .i64 x2), (3, .int .i64 x3), (15, .pointer none), (16, .pointer none), (17, .int .i64 r49.2), (104, .bool (decide (x2 > (IntKind.i64.wrap (x0 - x1)))))] rfl (by kernel_rfl) ?_
          refine ow_end rfl ?_
          have hR := Option.some.inj hF
          exact fun a w hf hs => ⟨decide (x2 > (IntKind.i64.wrap (x0 - x1))), hR, hf.keep [1, 2, 3, 15, 16, 17, 104], sat_to [0, 0, 0, 0, 0] 0 rfl hs⟩
        rintro a w ⟨x70, hv, hf, hs⟩
        subst hv
        replace hF := hK68
        clear hK68
        try dsimp only at hF
        revert a w
        show CW _ _ _ 166 [(1, .int .i64 x1), (2, .int .i64 x2), (3, .int .i64 x3), (15, .pointer none), (16, .pointer none), (17, .int .i64 r49.2), (104, .bool x70)] (SAT w0 ([imm I, pt r38_b2 #[.pointer (some ⟨r28_b2, 0, none⟩), .int .i64 r38_s1.boot_, .int .i64 r38_s1.n_] 72, pt r28_b2 #[.slice r28_p4 r28_s1.sure_.length r28_c5, .map (some r28_b7), .bool r28_s1.off_, .bool r28_s1.armed_, .int .i64 r28_s1.left_, .int .u64 r28_s1.fall_.Keep, .int .i64 r28_s1.fall_.Tear, .int .i64 r28_s1.acts_, .int .i64 r28_s1.falls_] 62, own e_disk_sector 65 r28_p4 r28_c5 r28_s1.sure_, mpo (kInt .i64) (fun x : disk_sector => Value.agg #[.string x.s_, .int .i64 x.at_]) r28_b7 r28_s1.wait_] ++ F0))
        unfold F.law12_JournalOpens.r7 at hF
        rcases if_some hF with ⟨h71, hF⟩ | ⟨h71, hF⟩
        · refine cw_cond_t rfl rfl h71 ?_
          refine cw_seq ?_
          refine cw_region ?_
          refine ow_vals 7 (j := 7) [111] [(111, .bool (r49.2 == 5))] rfl (by kernel_rfl) ?_
          rcases if_some hF with ⟨h72, hF⟩ | ⟨h72, hF⟩
          · refine ow_slots (L' := [(111, .bool true)]) (by rw [h72]) ?_
            obtain ⟨r73, h74, hF⟩ := bind_some hF
            refine ow_pw rfl (pw_call (F := [pt r38_b2 #[.pointer (some ⟨r28_b2, 0, none⟩), .int .i64 r38_s1.boot_, .int .i64 r38_s1.n_] 72, pt r28_b2 #[.slice r28_p4 r28_s1.sure_.length r28_c5, .map (some r28_b7), .bool r28_s1.off_, .bool r28_s1.armed_, .int .i64 r28_s1.left_, .int .u64 r28_s1.fall_.Keep, .int .i64 r28_s1.fall_.Tear, .int .i64 r28_s1.acts_, .int .i64 r28_s1.falls_] 62, own e_disk_sector 65 r28_p4 r28_c5 r28_s1.sure_, mpo (kInt .i64) (fun x : disk_sector => Value.agg #[.string x.s_, .int .i64 x.at_]) r28_b7 r28_s1.wait_] ++ F0) rfl rfl rfl rfl rfl rfl rfl (by kernel_rfl) (perm_of_pulls [0] rfl) (c_law12_awake _ r73 h74) ?_)
            rintro _ _ ⟨rfl, rfl⟩
            refine nw_H (H' := [imm I, pt r38_b2 #[.pointer (some ⟨r28_b2, 0, none⟩), .int .i64 r38_s1.boot_, .int .i64 r38_s1.n_] 72, pt r28_b2 #[.slice r28_p4 r28_s1.sure_.length r28_c5, .map (some r28_b7), .bool r28_s1.off_, .bool r28_s1.armed_, .int .i64 r28_s1.left_, .int .u64 r28_s1.fall_.Keep, .int .i64 r28_s1.fall_.Tear, .int .i64 r28_s1.acts_, .int .i64 r28_s1.falls_] 62, own e_disk_sector 65 r28_p4 r28_c5 r28_s1.sure_, mpo (kInt .i64) (fun x : disk_sector => Value.agg #[.string x.s_, .int .i64 x.at_]) r28_b7 r28_s1.wait_] ++ F0) rfl (nw_ow ?_)
            refine ow_vals 2 (j := 10) [10] [(10, .bool r73)] rfl (by kernel_rfl) ?_
            refine ow_end rfl ?_
            refine ew_then ?_
            refine cw_ret ?_
            refine ew_then_ret ?_
            have hR := Option.some.inj hF
            subst hR
            have hR := hK67
            try dsimp only [Thru] at hR
            subst hR
            exact fin1 (H1 := [imm I]) (fun w hs => sat_to [1, 1, 1, 1, 0] 4 rfl hs) rfl (rr_tmp rfl) ⟨rfl, rfl⟩
          refine ow_slots (L' := [(111, .bool false)]) (by rw [h72]) ?_
          refine ow_vals 3 (j := 10) [10] [(10, .bool false)] rfl (by kernel_rfl) ?_
          refine ow_end rfl ?_
          refine ew_then ?_
          refine cw_ret ?_
          refine ew_then_ret ?_
          have hR := Option.some.inj hF
          subst hR
          have hR := hK67
          try dsimp only [Thru] at hR
          subst hR
          exact fin1 (H1 := [imm I]) (fun w hs => sat_to [1, 1, 1, 1, 0] 4 rfl hs) rfl (rr_tmp rfl) ⟨rfl, rfl⟩
        refine cw_cond_f rfl rfl h71 ?_
        refine cw_skip ?_
        have hR := Option.some.inj hF
        exact fun a w hf hs => ⟨hR, hf.keep [1, 2, 3, 15, 16, 17], sat_to [0, 0, 0, 0, 0] 0 rfl hs⟩
      rintro a w ⟨hv, hf, hs⟩
      subst hv
      replace hF := hK67
      clear hK67
      try dsimp only [Thru] at hF
      revert a w
      show CW _ _ _ 166 [(1, .int .i64 x1), (2, .int .i64 x2), (3, .int .i64 x3), (15, .pointer none), (16, .pointer none), (17, .int .i64 r49.2)] (SAT w0 ([imm I, pt r38_b2 #[.pointer (some ⟨r28_b2, 0, none⟩), .int .i64 r38_s1.boot_, .int .i64 r38_s1.n_] 72, pt r28_b2 #[.slice r28_p4 r28_s1.sure_.length r28_c5, .map (some r28_b7), .bool r28_s1.off_, .bool r28_s1.armed_, .int .i64 r28_s1.left_, .int .u64 r28_s1.fall_.Keep, .int .i64 r28_s1.fall_.Tear, .int .i64 r28_s1.acts_, .int .i64 r28_s1.falls_] 62, own e_disk_sector 65 r28_p4 r28_c5 r28_s1.sure_, mpo (kInt .i64) (fun x : disk_sector => Value.agg #[.string x.s_, .int .i64 x.at_]) r28_b7 r28_s1.wait_] ++ F0))
      unfold F.law12_JournalOpens.r8 at hF
      obtain ⟨v75, hF, hK75⟩ := bind_some hF
      refine cw_mid (fun a w => () = v75 ∧ Fr 166 [(2, .int .i64 x2), (16, .pointer none), (17, .int .i64 r49.2), (20, .bool false)] a ∧ SAT w0 ([imm I, pt r38_b2 #[.pointer (some ⟨r28_b2, 0, none⟩), .int .i64 r38_s1.boot_, .int .i64 r38_s1.n_] 72, pt r28_b2 #[.slice r28_p4 r28_s1.sure_.length r28_c5, .map (some r28_b7), .bool r28_s1.off_, .bool r28_s1.armed_, .int .i64 r28_s1.left_, .int .u64 r28_s1.fall_.Keep, .int .i64 r28_s1.fall_.Tear, .int .i64 r28_s1.acts_, .int .i64 r28_s1.falls_] 62, own e_disk_sector 65 r28_p4 r28_c5 r28_s1.sure_, mpo (kInt .i64) (fun x : disk_sector => Value.agg #[.string x.s_, .int .i64 x.at_]) r28_b7 r28_s1.wait_] ++ F0) w) ?_ ?_
      · refine cw_region ?_
        refine ow_vals 22 (j := 22) [2, 16, 17, 20] [(2, .int .i64 x2), (16, .pointer none), (17, .int .i64 r49.2), (20, .bool false)] rfl (by kernel_rfl) ?_
        refine ow_end rfl ?_
        have hR := Option.some.inj hF
        exact fun a w hf hs => ⟨hR, hf.keep [2, 16, 17, 20], sat_to [0, 0, 0, 0, 0] 0 rfl hs⟩
      rintro a w ⟨hv, hf, hs⟩
      subst hv
      replace hF := hK75
      clear hK75
      try dsimp only at hF
      revert a w
      show CW _ _ _ 166 [(2, .int .i64 x2), (16, .pointer none), (17, .int .i64 r49.2), (20, .bool false)] (SAT w0 ([imm I, pt r38_b2 #[.pointer (some ⟨r28_b2, 0, none⟩), .int .i64 r38_s1.boot_, .int .i64 r38_s1.n_] 72, pt r28_b2 #[.slice r28_p4 r28_s1.sure_.length r28_c5, .map (some r28_b7), .bool r28_s1.off_, .bool r28_s1.armed_, .int .i64 r28_s1.left_, .int .u64 r28_s1.fall_.Keep, .int .i64 r28_s1.fall_.Tear, .int .i64 r28_s1.acts_, .int .i64 r28_s1.falls_] 62, own e_disk_sector 65 r28_p4 r28_c5 r28_s1.sure_, mpo (kInt .i64) (fun x : disk_sector => Value.agg #[.string x.s_, .int .i64 x.at_]) r28_b7 r28_s1.wait_] ++ F0))
      unfold F.law12_JournalOpens.r9 at hF
      refine cw_seq ?_
      refine cw_region ?_
      refine ow_vals 3 (j := 3) [2, 16, 20, 137] [(2, .int .i64 x2), (16, .pointer none), (20, .bool false), (137, .bool (r49.2 == 0))] rfl (by kernel_rfl) ?_
      rcases if_some hF with ⟨h76, hF⟩ | ⟨h76, hF⟩
      · refine ow_slots (L' := [(2, .int .i64 x2), (16, .pointer none), (20, .bool false), (137, .bool true)]) (by rw [h76]) ?_
        refine ow_vals 1 (j := 4) [2, 16, 20, 137, 138] [(2, .int .i64 x2), (16, .pointer none), (20, .bool false), (137, .bool true), (138, .pointer none)] rfl (by kernel_rfl) ?_
        obtain ⟨r77, h78, hF⟩ := bind_some hF
        refine ow_pw rfl (pw_call (F := [pt r38_b2 #[.pointer (some ⟨r28_b2, 0, none⟩), .int .i64 r38_s1.boot_, .int .i64 r38_s1.n_] 72, pt r28_b2 #[.slice r28_p4 r28_s1.sure_.length r28_c5, .map (some r28_b7), .bool r28_s1.off_, .bool r28_s1.armed_, .int .i64 r28_s1.left_, .int .u64 r28_s1.fall_.Keep, .int .i64 r28_s1.fall_.Tear, .int .i64 r28_s1.acts_, .int .i64 r28_s1.falls_] 62, own e_disk_sector 65 r28_p4 r28_c5 r28_s1.sure_, mpo (kInt .i64) (fun x : disk_sector => Value.agg #[.string x.s_, .int .i64 x.at_]) r28_b7 r28_s1.wait_] ++ F0) rfl rfl rfl rfl rfl rfl rfl (by kernel_rfl) (perm_of_pulls [0] rfl) (c_journal_Journal_Records _ r77 h78) ?_)
        rintro _ _ ⟨r77_p1, r77_c2, rfl, rfl⟩
        refine nw_H (H' := [imm I, own eStr 9 r77_p1 r77_c2 r77, pt r38_b2 #[.pointer (some ⟨r28_b2, 0, none⟩), .int .i64 r38_s1.boot_, .int .i64 r38_s1.n_] 72, pt r28_b2 #[.slice r28_p4 r28_s1.sure_.length r28_c5, .map (some r28_b7), .bool r28_s1.off_, .bool r28_s1.armed_, .int .i64 r28_s1.left_, .int .u64 r28_s1.fall_.Keep, .int .i64 r28_s1.fall_.Tear, .int .i64 r28_s1.acts_, .int .i64 r28_s1.falls_] 62, own e_disk_sector 65 r28_p4 r28_c5 r28_s1.sure_, mpo (kInt .i64) (fun x : disk_sector => Value.agg #[.string x.s_, .int .i64 x.at_]) r28_b7 r28_s1.wait_] ++ F0) rfl (nw_ow ?_)
        refine ow_vals 6 (j := 11) [2, 16, 20, 145] [(2, .int .i64 x2), (16, .pointer none), (20, .bool false), (145, .bool (((r77.length : Int) == 1) == false))] rfl (by kernel_rfl) ?_
        rcases if_some hF with ⟨h80, hF⟩ | ⟨h80, hF⟩
        · refine ow_slots (L' := [(2, .int .i64 x2), (16, .pointer none), (20, .bool false), (145, .bool true)]) (by rw [h80]) ?_
          refine ow_vals 1 (j := 12) [2, 16, 20, 145, 146] [(2, .int .i64 x2), (16, .pointer none), (20, .bool false), (145, .bool true), (146, .pointer none)] rfl (by kernel_rfl) ?_
          obtain ⟨r81, h82, hF⟩ := bind_some hF
          refine ow_pw rfl (pw_call (F := [own eStr 9 r77_p1 r77_c2 r77, pt r38_b2 #[.pointer (some ⟨r28_b2, 0, none⟩), .int .i64 r38_s1.boot_, .int .i64 r38_s1.n_] 72, pt r28_b2 #[.slice r28_p4 r28_s1.sure_.length r28_c5, .map (some r28_b7), .bool r28_s1.off_, .bool r28_s1.armed_, .int .i64 r28_s1.left_, .int .u64 r28_s1.fall_.Keep, .int .i64 r28_s1.fall_.Tear, .int .i64 r28_s1.acts_, .int .i64 r28_s1.falls_] 62, own e_disk_sector 65 r28_p4 r28_c5 r28_s1.sure_, mpo (kInt .i64) (fun x : disk_sector => Value.agg #[.string x.s_, .int .i64 x.at_]) r28_b7 r28_s1.wait_] ++ F0) rfl rfl rfl rfl rfl rfl rfl (by kernel_rfl) (perm_of_pulls [0] rfl) (c_journal_Journal_Records _ r81 h82) ?_)
          rintro _ _ ⟨r81_p1, r81_c2, rfl, rfl⟩
          refine nw_H (H' := [imm I, own eStr 9 r81_p1 r81_c2 r81, own eStr 9 r77_p1 r77_c2 r77, pt r38_b2 #[.pointer (some ⟨r28_b2, 0, none⟩), .int .i64 r38_s1.boot_, .int .i64 r38_s1.n_] 72, pt r28_b2 #[.slice r28_p4 r28_s1.sure_.length r28_c5, .map (some r28_b7), .bool r28_s1.off_, .bool r28_s1.armed_, .int .i64 r28_s1.left_, .int .u64 r28_s1.fall_.Keep, .int .i64 r28_s1.fall_.Tear, .int .i64 r28_s1.acts_, .int .i64 r28_s1.falls_] 62, own e_disk_sector 65 r28_p4 r28_c5 r28_s1.sure_, mpo (kInt .i64) (fun x : disk_sector => Value.agg #[.string x.s_, .int .i64 x.at_]) r28_b7 r28_s1.wait_] ++ F0) rfl (nw_ow ?_)
          refine ow_vals 7 (j := 20) [2, 16, 154] [(2, .int .i64 x2), (16, .pointer none), (154, .bool (((r81.length : Int) == 0) == true))] rfl (by kernel_rfl) ?_
          rcases if_some hF with ⟨h84, hF⟩ | ⟨h84, hF⟩
          · refine ow_slots (L' := [(2, .int .i64 x2), (16, .pointer none), (154, .bool true)]) (by rw [h84]) ?_
            refine ow_vals 1 (j := 21) [2, 16, 154, 155] [(2, .int .i64 x2), (16, .pointer none), (154, .bool true), (155, .pointer none)] rfl (by kernel_rfl) ?_
            obtain ⟨r85, h86, hF⟩ := bind_some hF
            refine ow_pw rfl (pw_call (F := [own eStr 9 r81_p1 r81_c2 r81, own eStr 9 r77_p1 r77_c2 r77, pt r38_b2 #[.pointer (some ⟨r28_b2, 0, none⟩), .int .i64 r38_s1.boot_, .int .i64 r38_s1.n_] 72, pt r28_b2 #[.slice r28_p4 r28_s1.sure_.length r28_c5, .map (some r28_b7), .bool r28_s1.off_, .bool r28_s1.armed_, .int .i64 r28_s1.left_, .int .u64 r28_s1.fall_.Keep, .int .i64 r28_s1.fall_.Tear, .int .i64 r28_s1.acts_, .int .i64 r28_s1.falls_] 62, own e_disk_sector 65 r28_p4 r28_c5 r28_s1.sure_, mpo (kInt .i64) (fun x : disk_sector => Value.agg #[.string x.s_, .int .i64 x.at_]) r28_b7 r28_s1.wait_] ++ F0) rfl rfl rfl rfl rfl rfl rfl (by kernel_rfl) (perm_of_pulls [0] rfl) (c_journal_Journal_Left_1 _ r85 h86) ?_)
            rintro _ _ ⟨rfl, rfl⟩
            refine nw_H (H' := [imm I, own eStr 9 r81_p1 r81_c2 r81, own eStr 9 r77_p1 r77_c2 r77, pt r38_b2 #[.pointer (some ⟨r28_b2, 0, none⟩), .int .i64 r38_s1.boot_, .int .i64 r38_s1.n_] 72, pt r28_b2 #[.slice r28_p4 r28_s1.sure_.length r28_c5, .map (some r28_b7), .bool r28_s1.off_, .bool r28_s1.armed_, .int .i64 r28_s1.left_, .int .u64 r28_s1.fall_.Keep, .int .i64 r28_s1.fall_.Tear, .int .i64 r28_s1.acts_, .int .i64 r28_s1.falls_] 62, own e_disk_sector 65 r28_p4 r28_c5 r28_s1.sure_, mpo (kInt .i64) (fun x : disk_sector => Value.agg #[.string x.s_, .int .i64 x.at_]) r28_b7 r28_s1.wait_] ++ F0) rfl (nw_ow ?_)
            refine ow_vals 2 (j := 24) [154, 156, 157, 158] [(154, .bool true), (156, .int .i64 r85), (157, .int .i64 x2), (158, .pointer none)] rfl (by kernel_rfl) ?_
            obtain ⟨r87, h88, hF⟩ := bind_some hF
            refine ow_pw rfl (pw_call (F := [own eStr 9 r81_p1 r81_c2 r81, own eStr 9 r77_p1 r77_c2 r77, pt r38_b2 #[.pointer (some ⟨r28_b2, 0, none⟩), .int .i64 r38_s1.boot_, .int .i64 r38_s1.n_] 72, pt r28_b2 #[.slice r28_p4 r28_s1.sure_.length r28_c5, .map (some r28_b7), .bool r28_s1.off_, .bool r28_s1.armed_, .int .i64 r28_s1.left_, .int .u64 r28_s1.fall_.Keep, .int .i64 r28_s1.fall_.Tear, .int .i64 r28_s1.acts_, .int .i64 r28_s1.falls_] 62, own e_disk_sector 65 r28_p4 r28_c5 r28_s1.sure_, mpo (kInt .i64) (fun x : disk_sector => Value.agg #[.string x.s_, .int .i64 x.at_]) r28_b7 r28_s1.wait_] ++ F0) rfl rfl rfl rfl rfl rfl rfl (by kernel_rfl) (perm_of_pulls [0] rfl) (c_journal_Journal_Used_1 _ r87 h88) ?_)
            rintro _ _ ⟨rfl, rfl⟩
            refine nw_H (H' := [imm I, own eStr 9 r81_p1 r81_c2 r81, own eStr 9 r77_p1 r77_c2 r77, pt r38_b2 #[.pointer (some ⟨r28_b2, 0, none⟩), .int .i64 r38_s1.boot_, .int .i64 r38_s1.n_] 72, pt r28_b2 #[.slice r28_p4 r28_s1.sure_.length r28_c5, .map (some r28_b7), .bool r28_s1.off_, .bool r28_s1.armed_, .int .i64 r28_s1.left_, .int .u64 r28_s1.fall_.Keep, .int .i64 r28_s1.fall_.Tear, .int .i64 r28_s1.acts_, .int .i64 r28_s1.falls_] 62, own e_disk_sector 65 r28_p4 r28_c5 r28_s1.sure_, mpo (kInt .i64) (fun x : disk_sector => Value.agg #[.string x.s_, .int .i64 x.at_]) r28_b7 r28_s1.wait_] ++ F0) rfl (nw_ow ?_)
            refine ow_vals 4 (j := 29) [163] [(163, .bool (r85 == (IntKind.i64.wrap (x2 - r87))))] rfl (by kernel_rfl) ?_
            rcases if_some hF with ⟨h89, hF⟩ | ⟨h89, hF⟩
            · refine ow_slots (L' := [(163, .bool true)]) (by rw [h89]) ?_
              obtain ⟨r90, h91, hF⟩ := bind_some hF
              refine ow_pw rfl (pw_call (F := [own eStr 9 r81_p1 r81_c2 r81, own eStr 9 r77_p1 r77_c2 r77, pt r38_b2 #[.pointer (some ⟨r28_b2, 0, none⟩), .int .i64 r38_s1.boot_, .int .i64 r38_s1.n_] 72, pt r28_b2 #[.slice r28_p4 r28_s1.sure_.length r28_c5, .map (some r28_b7), .bool r28_s1.off_, .bool r28_s1.armed_, .int .i64 r28_s1.left_, .int .u64 r28_s1.fall_.Keep, .int .i64 r28_s1.fall_.Tear, .int .i64 r28_s1.acts_, .int .i64 r28_s1.falls_] 62, own e_disk_sector 65 r28_p4 r28_c5 r28_s1.sure_, mpo (kInt .i64) (fun x : disk_sector => Value.agg #[.string x.s_, .int .i64 x.at_]) r28_b7 r28_s1.wait_] ++ F0) rfl rfl rfl rfl rfl rfl rfl (by kernel_rfl) (perm_of_pulls [0] rfl) (c_law12_awake _ r90 h91) ?_)
              rintro _ _ ⟨rfl, rfl⟩
              refine nw_H (H' := [imm I, own eStr 9 r81_p1 r81_c2 r81, own eStr 9 r77_p1 r77_c2 r77, pt r38_b2 #[.pointer (some ⟨r28_b2, 0, none⟩), .int .i64 r38_s1.boot_, .int .i64 r38_s1.n_] 72, pt r28_b2 #[.slice r28_p4 r28_s1.sure_.length r28_c5, .map (some r28_b7), .bool r28_s1.off_, .bool r28_s1.armed_, .int .i64 r28_s1.left_, .int .u64 r28_s1.fall_.Keep, .int .i64 r28_s1.fall_.Tear, .int .i64 r28_s1.acts_, .int .i64 r28_s1.falls_] 62, own e_disk_sector 65 r28_p4 r28_c5 r28_s1.sure_, mpo (kInt .i64) (fun x : disk_sector => Value.agg #[.string x.s_, .int .i64 x.at_]) r28_b7 r28_s1.wait_] ++ F0) rfl (nw_ow ?_)
              refine ow_vals 2 (j := 32) [10] [(10, .bool r90)] rfl (by kernel_rfl) ?_
              refine ow_end rfl ?_
              refine ew_then ?_
              refine cw_ret ?_
              have hR := Option.some.inj hF
              subst hR
              exact fin1 (H1 := [imm I]) (fun w hs => sat_to [1, 1, 1, 1, 1, 1, 0] 6 rfl hs) rfl (rr_tmp rfl) ⟨rfl, rfl⟩
            refine ow_slots (L' := [(163, .bool false)]) (by rw [h89]) ?_
            refine ow_vals 3 (j := 32) [10] [(10, .bool false)] rfl (by kernel_rfl) ?_
            refine ow_end rfl ?_
            refine ew_then ?_
            refine cw_ret ?_
            have hR := Option.some.inj hF
            subst hR
            exact fin1 (H1 := [imm I]) (fun w hs => sat_to [1, 1, 1, 1, 1, 1, 0] 6 rfl hs) rfl (rr_tmp rfl) ⟨rfl, rfl⟩
          refine ow_slots (L' := [(2, .int .i64 x2), (16, .pointer none), (154, .bool false)]) (by rw [h84]) ?_
          refine ow_vals 12 (j := 32) [10] [(10, .bool false)] rfl (by kernel_rfl) ?_
          refine ow_end rfl ?_
          refine ew_then ?_
          refine cw_ret ?_
          have hR := Option.some.inj hF
          subst hR
          exact fin1 (H1 := [imm I]) (fun w hs => sat_to [1, 1, 1, 1, 1, 1, 0] 6 rfl hs) rfl (rr_tmp rfl) ⟨rfl, rfl⟩
        refine ow_slots (L' := [(2, .int .i64 x2), (16, .pointer none), (20, .bool false), (145, .bool false)]) (by rw [h80]) ?_
        refine ow_vals 21 (j := 32) [10] [(10, .bool false)] rfl (by kernel_rfl) ?_
        refine ow_end rfl ?_
        refine ew_then ?_
        refine cw_ret ?_
        have hR := Option.some.inj hF
        subst hR
        exact fin1 (H1 := [imm I]) (fun w hs => sat_to [1, 1, 1, 1, 1, 0] 5 rfl hs) rfl (rr_tmp rfl) ⟨rfl, rfl⟩
      refine ow_slots (L' := [(2, .int .i64 x2), (16, .pointer none), (20, .bool false), (137, .bool false)]) (by rw [h76]) ?_
      refine ow_vals 29 (j := 32) [10] [(10, .bool false)] rfl (by kernel_rfl) ?_
      refine ow_end rfl ?_
      refine ew_then ?_
      refine cw_ret ?_
      have hR := Option.some.inj hF
      subst hR
      exact fin1 (H1 := [imm I]) (fun w hs => sat_to [1, 1, 1, 1, 0] 4 rfl hs) rfl (rr_tmp rfl) ⟨rfl, rfl⟩
    rw [hO] at hF
    try dsimp only [optC] at hF
    refine nw_H (H' := [imm I, pt r38_b2 #[.pointer (some ⟨r28_b2, 0, none⟩), .int .i64 r38_s1.boot_, .int .i64 r38_s1.n_] 72, pt r28_b2 #[.slice r28_p4 r28_s1.sure_.length r28_c5, .map (some r28_b7), .bool r28_s1.off_, .bool r28_s1.armed_, .int .i64 r28_s1.left_, .int .u64 r28_s1.fall_.Keep, .int .i64 r28_s1.fall_.Tear, .int .i64 r28_s1.acts_, .int .i64 r28_s1.falls_] 62, pt r49_b2 #[.pointer (some ⟨r38_b2, 0, none⟩), .int .i64 r49_s1.base_, .int .i64 r49_s1.size_, .int .i64 r49_s1.next_, .int .i64 r49_s1.last_, .slice r49_p4 r49_s1.list_.length r49_c5, .int .i64 r49_s1.sure_, .bool r49_s1.dead_] 26, own eStr 9 r49_p4 r49_c5 r49_s1.list_, own e_disk_sector 65 r28_p4 r28_c5 r28_s1.sure_, mpo (kInt .i64) (fun x : disk_sector => Value.agg #[.string x.s_, .int .i64 x.at_]) r28_b7 r28_s1.wait_] ++ F0) rfl (nw_ow ?_)
    refine ow_vals 5 (j := 10) [0, 1, 2, 3, 15, 16, 17] [(0, .int .i64 x0), (1, .int .i64 x1), (2, .int .i64 x2), (3, .int .i64 x3), (15, .pointer none), (16, .pointer (some ⟨r49_b2, 0, none⟩)), (17, .int .i64 0)] rfl (by kernel_rfl) ?_
    refine ow_end rfl ?_
    refine ew_then ?_
    refine cw_seq ?_
    refine cw_region ?_
    refine ow_vals 3 (j := 3) [0, 1, 2, 3, 15, 16, 17, 60, 61, 62] [(0, .int .i64 x0), (1, .int .i64 x1), (2, .int .i64 x2), (3, .int .i64 x3), (15, .pointer none), (16, .pointer (some ⟨r49_b2, 0, none⟩)), (17, .int .i64 0), (60, .int .i64 x1), (61, .int .i64 x2), (62, .int .i64 x3)] rfl (by kernel_rfl) ?_
    obtain ⟨r92, h93, hF⟩ := bind_some hF
    refine ow_pw rfl (pw_call (F := [pt r38_b2 #[.pointer (some ⟨r28_b2, 0, none⟩), .int .i64 r38_s1.boot_, .int .i64 r38_s1.n_] 72, pt r28_b2 #[.slice r28_p4 r28_s1.sure_.length r28_c5, .map (some r28_b7), .bool r28_s1.off_, .bool r28_s1.armed_, .int .i64 r28_s1.left_, .int .u64 r28_s1.fall_.Keep, .int .i64 r28_s1.fall_.Tear, .int .i64 r28_s1.acts_, .int .i64 r28_s1.falls_] 62, pt r49_b2 #[.pointer (some ⟨r38_b2, 0, none⟩), .int .i64 r49_s1.base_, .int .i64 r49_s1.size_, .int .i64 r49_s1.next_, .int .i64 r49_s1.last_, .slice r49_p4 r49_s1.list_.length r49_c5, .int .i64 r49_s1.sure_, .bool r49_s1.dead_] 26, own eStr 9 r49_p4 r49_c5 r49_s1.list_, own e_disk_sector 65 r28_p4 r28_c5 r28_s1.sure_, mpo (kInt .i64) (fun x : disk_sector => Value.agg #[.string x.s_, .int .i64 x.at_]) r28_b7 r28_s1.wait_] ++ F0) rfl rfl rfl rfl rfl rfl rfl (by kernel_rfl) (perm_of_pulls [0] rfl) (c_journal_Open_1 _ x1 x2 x3 r92 h93) ?_)
    rintro _ _ ⟨rfl, rfl⟩
    refine nw_H (H' := [imm I, pt r38_b2 #[.pointer (some ⟨r28_b2, 0, none⟩), .int .i64 r38_s1.boot_, .int .i64 r38_s1.n_] 72, pt r28_b2 #[.slice r28_p4 r28_s1.sure_.length r28_c5, .map (some r28_b7), .bool r28_s1.off_, .bool r28_s1.armed_, .int .i64 r28_s1.left_, .int .u64 r28_s1.fall_.Keep, .int .i64 r28_s1.fall_.Tear, .int .i64 r28_s1.acts_, .int .i64 r28_s1.falls_] 62, pt r49_b2 #[.pointer (some ⟨r38_b2, 0, none⟩), .int .i64 r49_s1.base_, .int .i64 r49_s1.size_, .int .i64 r49_s1.next_, .int .i64 r49_s1.last_, .slice r49_p4 r49_s1.list_.length r49_c5, .int .i64 r49_s1.sure_, .bool r49_s1.dead_] 26, own eStr 9 r49_p4 r49_c5 r49_s1.list_, own e_disk_sector 65 r28_p4 r28_c5 r28_s1.sure_, mpo (kInt .i64) (fun x : disk_sector => Value.agg #[.string x.s_, .int .i64 x.at_]) r28_b7 r28_s1.wait_] ++ F0) rfl (nw_ow ?_)
    refine ow_vals 5 (j := 9) [0, 1, 2, 3, 15, 16, 17, 18, 19] [(0, .int .i64 x0), (1, .int .i64 x1), (2, .int .i64 x2), (3, .int .i64 x3), (15, .pointer none), (16, .pointer (some ⟨r49_b2, 0, none⟩)), (17, .int .i64 0), (18, .pointer none), (19, .int .i64 r92)] rfl (by kernel_rfl) ?_
    refine ow_end rfl ?_
    refine ew_then ?_
    obtain ⟨v94, hF, hK94⟩ := thru_some hF
    refine cw_mid (fun a w => .inl () = v94 ∧ Fr 166 [(0, .int .i64 x0), (1, .int .i64 x1), (2, .int .i64 x2), (3, .int .i64 x3), (15, .pointer none), (16, .pointer (some ⟨r49_b2, 0, none⟩)), (17, .int .i64 0)] a ∧ SAT w0 ([imm I, pt r38_b2 #[.pointer (some ⟨r28_b2, 0, none⟩), .int .i64 r38_s1.boot_, .int .i64 r38_s1.n_] 72, pt r28_b2 #[.slice r28_p4 r28_s1.sure_.length r28_c5, .map (some r28_b7), .bool r28_s1.off_, .bool r28_s1.armed_, .int .i64 r28_s1.left_, .int .u64 r28_s1.fall_.Keep, .int .i64 r28_s1.fall_.Tear, .int .i64 r28_s1.acts_, .int .i64 r28_s1.falls_] 62, pt r49_b2 #[.pointer (some ⟨r38_b2, 0, none⟩), .int .i64 r49_s1.base_, .int .i64 r49_s1.size_, .int .i64 r49_s1.next_, .int .i64 r49_s1.last_, .slice r49_p4 r49_s1.list_.length r49_c5, .int .i64 r49_s1.sure_, .bool r49_s1.dead_] 26, own e_disk_sector 65 r28_p4 r28_c5 r28_s1.sure_, mpo (kInt .i64) (fun x : disk_sector => Value.agg #[.string x.s_, .int .i64 x.at_]) r28_b7 r28_s1.wait_, own eStr 9 r49_p4 r49_c5 r49_s1.list_] ++ F0) w) ?_ ?_
    · refine cw_seq ?_
      refine cw_region ?_
      refine ow_vals 6 (j := 6) [0, 1, 2, 3, 15, 16, 17, 71] [(0, .int .i64 x0), (1, .int .i64 x1), (2, .int .i64 x2), (3, .int .i64 x3), (15, .pointer none), (16, .pointer (some ⟨r49_b2, 0, none⟩)), (17, .int .i64 0), (71, .bool (r92 != 1))] rfl (by kernel_rfl) ?_
      refine ow_end rfl ?_
      refine ew_then ?_
      rcases if_some hF with ⟨h95, hF⟩ | ⟨h95, hF⟩
      · refine cw_cond_t rfl rfl h95 ?_
        refine cw_seq ?_
        refine cw_region ?_
        refine ow_vals 1 (j := 1) [10] [(10, .bool false)] rfl (by kernel_rfl) ?_
        refine ow_end rfl ?_
        refine ew_then ?_
        refine cw_ret ?_
        refine ew_then_ret ?_
        have hR := Option.some.inj hF
        subst hR
        have hR := hK94
        try dsimp only [Thru] at hR
        subst hR
        exact fin1 (H1 := [imm I]) (fun w hs => sat_to [1, 1, 1, 1, 1, 1, 0] 6 rfl hs) rfl (rr_tmp rfl) ⟨rfl, rfl⟩
      refine cw_cond_f rfl rfl h95 ?_
      refine cw_skip ?_
      have hR := Option.some.inj hF
      exact fun a w hf hs => ⟨hR, hf.keep [0, 1, 2, 3, 15, 16, 17], sat_to [0, 0, 0, 0, 1, 1, 0] 0 rfl hs⟩
    rintro a w ⟨hv, hf, hs⟩
    subst hv
    replace hF := hK94
    clear hK94
    try dsimp only [Thru] at hF
    revert a w
    show CW _ _ _ 166 [(0, .int .i64 x0), (1, .int .i64 x1), (2, .int .i64 x2), (3, .int .i64 x3), (15, .pointer none), (16, .pointer (some ⟨r49_b2, 0, none⟩)), (17, .int .i64 0)] (SAT w0 ([imm I, pt r38_b2 #[.pointer (some ⟨r28_b2, 0, none⟩), .int .i64 r38_s1.boot_, .int .i64 r38_s1.n_] 72, pt r28_b2 #[.slice r28_p4 r28_s1.sure_.length r28_c5, .map (some r28_b7), .bool r28_s1.off_, .bool r28_s1.armed_, .int .i64 r28_s1.left_, .int .u64 r28_s1.fall_.Keep, .int .i64 r28_s1.fall_.Tear, .int .i64 r28_s1.acts_, .int .i64 r28_s1.falls_] 62, pt r49_b2 #[.pointer (some ⟨r38_b2, 0, none⟩), .int .i64 r49_s1.base_, .int .i64 r49_s1.size_, .int .i64 r49_s1.next_, .int .i64 r49_s1.last_, .slice r49_p4 r49_s1.list_.length r49_c5, .int .i64 r49_s1.sure_, .bool r49_s1.dead_] 26, own e_disk_sector 65 r28_p4 r28_c5 r28_s1.sure_, mpo (kInt .i64) (fun x : disk_sector => Value.agg #[.string x.s_, .int .i64 x.at_]) r28_b7 r28_s1.wait_, own eStr 9 r49_p4 r49_c5 r49_s1.list_] ++ F0))
    unfold F.law12_JournalOpens.r10 at hF
    obtain ⟨v96, hF, hK96⟩ := thru_some hF
    refine cw_mid (fun a w => .inl () = v96 ∧ Fr 166 [(0, .int .i64 x0), (1, .int .i64 x1), (2, .int .i64 x2), (3, .int .i64 x3), (15, .pointer none), (16, .pointer (some ⟨r49_b2, 0, none⟩)), (17, .int .i64 0)] a ∧ SAT w0 ([imm I, pt r38_b2 #[.pointer (some ⟨r28_b2, 0, none⟩), .int .i64 r38_s1.boot_, .int .i64 r38_s1.n_] 72, pt r28_b2 #[.slice r28_p4 r28_s1.sure_.length r28_c5, .map (some r28_b7), .bool r28_s1.off_, .bool r28_s1.armed_, .int .i64 r28_s1.left_, .int .u64 r28_s1.fall_.Keep, .int .i64 r28_s1.fall_.Tear, .int .i64 r28_s1.acts_, .int .i64 r28_s1.falls_] 62, pt r49_b2 #[.pointer (some ⟨r38_b2, 0, none⟩), .int .i64 r49_s1.base_, .int .i64 r49_s1.size_, .int .i64 r49_s1.next_, .int .i64 r49_s1.last_, .slice r49_p4 r49_s1.list_.length r49_c5, .int .i64 r49_s1.sure_, .bool r49_s1.dead_] 26, own e_disk_sector 65 r28_p4 r28_c5 r28_s1.sure_, mpo (kInt .i64) (fun x : disk_sector => Value.agg #[.string x.s_, .int .i64 x.at_]) r28_b7 r28_s1.wait_, own eStr 9 r49_p4 r49_c5 r49_s1.list_] ++ F0) w) ?_ ?_
    · obtain ⟨v97, hF, hK97⟩ := bind_some hF
      refine cw_mid (fun a w => ∃ (x101 : Bool), x101 = v97 ∧ Fr 166 [(0, .int .i64 x0), (1, .int .i64 x1), (2, .int .i64 x2), (3, .int .i64 x3), (15, .pointer none), (16, .pointer (some ⟨r49_b2, 0, none⟩)), (17, .int .i64 0), (85, .bool x101)] a ∧ SAT w0 ([imm I, pt r38_b2 #[.pointer (some ⟨r28_b2, 0, none⟩), .int .i64 r38_s1.boot_, .int .i64 r38_s1.n_] 72, pt r28_b2 #[.slice r28_p4 r28_s1.sure_.length r28_c5, .map (some r28_b7), .bool r28_s1.off_, .bool r28_s1.armed_, .int .i64 r28_s1.left_, .int .u64 r28_s1.fall_.Keep, .int .i64 r28_s1.fall_.Tear, .int .i64 r28_s1.acts_, .int .i64 r28_s1.falls_] 62, pt r49_b2 #[.pointer (some ⟨r38_b2, 0, none⟩), .int .i64 r49_s1.base_, .int .i64 r49_s1.size_, .int .i64 r49_s1.next_, .int .i64 r49_s1.last_, .slice r49_p4 r49_s1.list_.length r49_c5, .int .i64 r49_s1.sure_, .bool r49_s1.dead_] 26, own e_disk_sector 65 r28_p4 r28_c5 r28_s1.sure_, mpo (kInt .i64) (fun x : disk_sector => Value.agg #[.string x.s_, .int .i64 x.at_]) r28_b7 r28_s1.wait_, own eStr 9 r49_p4 r49_c5 r49_s1.list_] ++ F0) w) ?_ ?_
      · refine cw_region ?_
        refine ow_vals 3 (j := 3) [0, 1, 2, 3, 15, 16, 17, 74] [(0, .int .i64 x0), (1, .int .i64 x1), (2, .int .i64 x2), (3, .int .i64 x3), (15, .pointer none), (16, .pointer (some ⟨r49_b2, 0, none⟩)), (17, .int .i64 0), (74, .bool (decide (x1 < 0)))] rfl (by kernel_rfl) ?_
        rcases if_some hF with ⟨h98, hF⟩ | ⟨h98, hF⟩
        · refine ow_slots (L' := [(0, .int .i64 x0), (1, .int .i64 x1), (2, .int .i64 x2), (3, .int .i64 x3), (15, .pointer none), (16, .pointer (some ⟨r49_b2, 0, none⟩)), (17, .int .i64 0), (74, .bool true)]) (by rw [h98]) ?_
          refine ow_vals 11 (j := 14) [0, 1, 2, 3, 15, 16, 17, 85] [(0, .int .i64 x0), (1, .int .i64 x1), (2, .int .i64 x2), (3, .int .i64 x3), (15, .pointer none), (16, .pointer (some ⟨r49_b2, 0, none⟩)), (17, .int .i64 0), (85, .bool true)] rfl (by kernel_rfl) ?_
          refine ow_end rfl ?_
          have hR := Option.some.inj hF
          exact fun a w hf hs => ⟨true, hR, hf.keep [0, 1, 2, 3, 15, 16, 17, 85], sat_to [0, 0, 0, 0, 0, 0, 0] 0 rfl hs⟩
        refine ow_slots (L' := [(0, .int .i64 x0), (1, .int .i64 x1), (2, .int .i64 x2), (3, .int .i64 x3), (15, .pointer none), (16, .pointer (some ⟨r49_b2, 0, none⟩)), (17, .int .i64 0), (74, .bool false)]) (by rw [h98]) ?_
        refine ow_vals 4 (j := 7) [0, 1, 2, 3, 15, 16, 17, 78] [(0, .int .i64 x0), (1, .int .i64 x1), (2, .int .i64 x2), (3, .int .i64 x3), (15, .pointer none), (16, .pointer (some ⟨r49_b2, 0, none⟩)), (17, .int .i64 0), (78, .bool (decide (x2 < 1)))] rfl (by kernel_rfl) ?_
        rcases if_some hF with ⟨h99, hF⟩ | ⟨h99, hF⟩
        · refine ow_slots (L' := [(0, .int .i64 x0), (1, .int .i64 x1), (2, .int .i64 x2), (3, .int .i64 x3), (15, .pointer none), (16, .pointer (some ⟨r49_b2, 0, none⟩)), (17, .int .i64 0), (78, .bool true)]) (by rw [h99]) ?_
          refine ow_vals 7 (j := 14) [0, 1, 2, 3, 15, 16, 17, 85] [(0, .int .i64 x0), (1, .int .i64 x1), (2, .int .i64 x2), (3, .int .i64 x3), (15, .pointer none), (16, .pointer (some ⟨r49_b2, 0, none⟩)), (17, .int .i64 0), (85, .bool true)] rfl (by kernel_rfl) ?_
          refine ow_end rfl ?_
          have hR := Option.some.inj hF
          exact fun a w hf hs => ⟨true, hR, hf.keep [0, 1, 2, 3, 15, 16, 17, 85], sat_to [0, 0, 0, 0, 0, 0, 0] 0 rfl hs⟩
        refine ow_slots (L' := [(0, .int .i64 x0), (1, .int .i64 x1), (2, .int .i64 x2), (3, .int .i64 x3), (15, .pointer none), (16, .pointer (some ⟨r49_b2, 0, none⟩)), (17, .int .i64 0), (78, .bool false)]) (by rw [h99]) ?_
        refine ow_vals 4 (j := 11) [0, 1, 2, 3, 15, 16, 17, 82] [(0, .int .i64 x0), (1, .int .i64 x1), (2, .int .i64 x2), (3, .int .i64 x3), (15, .pointer none), (16, .pointer (some ⟨r49_b2, 0, none⟩)), (17, .int .i64 0), (82, .bool (decide (x3 < 1)))] rfl (by kernel_rfl) ?_
        rcases if_some hF with ⟨h100, hF⟩ | ⟨h100, hF⟩
        · refine ow_slots (L' := [(0, .int .i64 x0), (1, .int .i64 x1), (2, .int .i64 x2), (3, .int .i64 x3), (15, .pointer none), (16, .pointer (some ⟨r49_b2, 0, none⟩)), (17, .int .i64 0), (82, .bool true)]) (by rw [h100]) ?_
          refine ow_vals 3 (j := 14) [0, 1, 2, 3, 15, 16, 17, 85] [(0, .int .i64 x0), (1, .int .i64 x1), (2, .int .i64 x2), (3, .int .i64 x3), (15, .pointer none), (16, .pointer (some ⟨r49_b2, 0, none⟩)), (17, .int .i64 0), (85, .bool true)] rfl (by kernel_rfl) ?_
          refine ow_end rfl ?_
          have hR := Option.some.inj hF
          exact fun a w hf hs => ⟨true, hR, hf.keep [0, 1, 2, 3, 15, 16, 17, 85], sat_to [0, 0, 0, 0, 0, 0, 0] 0 rfl hs⟩
        refine ow_slots (L' := [(0, .int .i64 x0), (1, .int .i64 x1), (2, .int .i64 x2), (3, .int .i64 x3), (15, .pointer none), (16, .pointer (some ⟨r49_b2, 0, none⟩)), (17, .int .i64 0), (82, .bool false)]) (by rw [h100]) ?_
        refine ow_vals 3 (j := 14) [0, 1, 2, 3, 15, 16, 17, 85] [(0, .int .i64 x0), (1, .int .i64 x1), (2, .int .i64 x2), (3, .int .i64 x3), (15, .pointer none), (16, .pointer (some ⟨r49_b2, 0, none⟩)), (17, .int .i64 0), (85, .bool (decide (x3 > 4294967295)))] rfl (by kernel_rfl) ?_
        refine ow_end rfl ?_
        have hR := Option.some.inj hF
        exact fun a w hf hs => ⟨decide (x3 > 4294967295), hR, hf.keep [0, 1, 2, 3, 15, 16, 17, 85], sat_to [0, 0, 0, 0, 0, 0, 0] 0 rfl hs⟩
      rintro a w ⟨x101, hv, hf, hs⟩
      subst hv
      replace hF := hK97
      clear hK97
      try dsimp only at hF
      revert a w
      show CW _ _ _ 166 [(0, .int .i64 x0), (1, .int .i64 x1), (2, .int .i64 x2), (3, .int .i64 x3), (15, .pointer none), (16, .pointer (some ⟨r49_b2, 0, none⟩)), (17, .int .i64 0), (85, .bool x101)] (SAT w0 ([imm I, pt r38_b2 #[.pointer (some ⟨r28_b2, 0, none⟩), .int .i64 r38_s1.boot_, .int .i64 r38_s1.n_] 72, pt r28_b2 #[.slice r28_p4 r28_s1.sure_.length r28_c5, .map (some r28_b7), .bool r28_s1.off_, .bool r28_s1.armed_, .int .i64 r28_s1.left_, .int .u64 r28_s1.fall_.Keep, .int .i64 r28_s1.fall_.Tear, .int .i64 r28_s1.acts_, .int .i64 r28_s1.falls_] 62, pt r49_b2 #[.pointer (some ⟨r38_b2, 0, none⟩), .int .i64 r49_s1.base_, .int .i64 r49_s1.size_, .int .i64 r49_s1.next_, .int .i64 r49_s1.last_, .slice r49_p4 r49_s1.list_.length r49_c5, .int .i64 r49_s1.sure_, .bool r49_s1.dead_] 26, own e_disk_sector 65 r28_p4 r28_c5 r28_s1.sure_, mpo (kInt .i64) (fun x : disk_sector => Value.agg #[.string x.s_, .int .i64 x.at_]) r28_b7 r28_s1.wait_, own eStr 9 r49_p4 r49_c5 r49_s1.list_] ++ F0))
      unfold F.law12_JournalOpens.r11 at hF
      rcases if_some hF with ⟨h102, hF⟩ | ⟨h102, hF⟩
      · refine cw_cond_t rfl rfl h102 ?_
        refine cw_seq ?_
        refine cw_region ?_
        refine ow_vals 10 (j := 10) [10] [(10, .bool false)] rfl (by kernel_rfl) ?_
        refine ow_end rfl ?_
        refine ew_then ?_
        refine cw_ret ?_
        refine ew_then_ret ?_
        have hR := Option.some.inj hF
        subst hR
        have hR := hK96
        try dsimp only [Thru] at hR
        subst hR
        exact fin1 (H1 := [imm I]) (fun w hs => sat_to [1, 1, 1, 1, 1, 1, 0] 6 rfl hs) rfl (rr_tmp rfl) ⟨rfl, rfl⟩
      refine cw_cond_f rfl rfl h102 ?_
      refine cw_skip ?_
      have hR := Option.some.inj hF
      exact fun a w hf hs => ⟨hR, hf.keep [0, 1, 2, 3, 15, 16, 17], sat_to [0, 0, 0, 0, 0, 0, 0] 0 rfl hs⟩
    rintro a w ⟨hv, hf, hs⟩
    subst hv
    replace hF := hK96
    clear hK96
    try dsimp only [Thru] at hF
    revert a w
    show CW _ _ _ 166 [(0, .int .i64 x0), (1, .int .i64 x1), (2, .int .i64 x2), (3, .int .i64 x3), (15, .pointer none), (16, .pointer (some ⟨r49_b2, 0, none⟩)), (17, .int .i64 0)] (SAT w0 ([imm I, pt r38_b2 #[.pointer (some ⟨r28_b2, 0, none⟩), .int .i64 r38_s1.boot_, .int .i64 r38_s1.n_] 72, pt r28_b2 #[.slice r28_p4 r28_s1.sure_.length r28_c5, .map (some r28_b7), .bool r28_s1.off_, .bool r28_s1.armed_, .int .i64 r28_s1.left_, .int .u64 r28_s1.fall_.Keep, .int .i64 r28_s1.fall_.Tear, .int .i64 r28_s1.acts_, .int .i64 r28_s1.falls_] 62, pt r49_b2 #[.pointer (some ⟨r38_b2, 0, none⟩), .int .i64 r49_s1.base_, .int .i64 r49_s1.size_, .int .i64 r49_s1.next_, .int .i64 r49_s1.last_, .slice r49_p4 r49_s1.list_.length r49_c5, .int .i64 r49_s1.sure_, .bool r49_s1.dead_] 26, own e_disk_sector 65 r28_p4 r28_c5 r28_s1.sure_, mpo (kInt .i64) (fun x : disk_sector => Value.agg #[.string x.s_, .int .i64 x.at_]) r28_b7 r28_s1.wait_, own eStr 9 r49_p4 r49_c5 r49_s1.list_] ++ F0))
    unfold F.law12_JournalOpens.r12 at hF
    obtain ⟨v103, hF, hK103⟩ := thru_some hF
    refine cw_mid (fun a w => .inl () = v103 ∧ Fr 166 [(1, .int .i64 x1), (2, .int .i64 x2), (3, .int .i64 x3), (15, .pointer none), (16, .pointer (some ⟨r49_b2, 0, none⟩)), (17, .int .i64 0)] a ∧ SAT w0 ([imm I, pt r38_b2 #[.pointer (some ⟨r28_b2, 0, none⟩), .int .i64 r38_s1.boot_, .int .i64 r38_s1.n_] 72, pt r28_b2 #[.slice r28_p4 r28_s1.sure_.length r28_c5, .map (some r28_b7), .bool r28_s1.off_, .bool r28_s1.armed_, .int .i64 r28_s1.left_, .int .u64 r28_s1.fall_.Keep, .int .i64 r28_s1.fall_.Tear, .int .i64 r28_s1.acts_, .int .i64 r28_s1.falls_] 62, pt r49_b2 #[.pointer (some ⟨r38_b2, 0, none⟩), .int .i64 r49_s1.base_, .int .i64 r49_s1.size_, .int .i64 r49_s1.next_, .int .i64 r49_s1.last_, .slice r49_p4 r49_s1.list_.length r49_c5, .int .i64 r49_s1.sure_, .bool r49_s1.dead_] 26, own e_disk_sector 65 r28_p4 r28_c5 r28_s1.sure_, mpo (kInt .i64) (fun x : disk_sector => Value.agg #[.string x.s_, .int .i64 x.at_]) r28_b7 r28_s1.wait_, own eStr 9 r49_p4 r49_c5 r49_s1.list_] ++ F0) w) ?_ ?_
    · obtain ⟨v104, hF, hK104⟩ := bind_some hF
      refine cw_mid (fun a w => ∃ (x106 : Bool), x106 = v104 ∧ Fr 166 [(1, .int .i64 x1), (2, .int .i64 x2), (3, .int .i64 x3), (15, .pointer none), (16, .pointer (some ⟨r49_b2, 0, none⟩)), (17, .int .i64 0), (104, .bool x106)] a ∧ SAT w0 ([imm I, pt r38_b2 #[.pointer (some ⟨r28_b2, 0, none⟩), .int .i64 r38_s1.boot_, .int .i64 r38_s1.n_] 72, pt r28_b2 #[.slice r28_p4 r28_s1.sure_.length r28_c5, .map (some r28_b7), .bool r28_s1.off_, .bool r28_s1.armed_, .int .i64 r28_s1.left_, .int .u64 r28_s1.fall_.Keep, .int .i64 r28_s1.fall_.Tear, .int .i64 r28_s1.acts_, .int .i64 r28_s1.falls_] 62, pt r49_b2 #[.pointer (some ⟨r38_b2, 0, none⟩), .int .i64 r49_s1.base_, .int .i64 r49_s1.size_, .int .i64 r49_s1.next_, .int .i64 r49_s1.last_, .slice r49_p4 r49_s1.list_.length r49_c5, .int .i64 r49_s1.sure_, .bool r49_s1.dead_] 26, own e_disk_sector 65 r28_p4 r28_c5 r28_s1.sure_, mpo (kInt .i64) (fun x : disk_sector => Value.agg #[.string x.s_, .int .i64 x.at_]) r28_b7 r28_s1.wait_, own eStr 9 r49_p4 r49_c5 r49_s1.list_] ++ F0) w) ?_ ?_
      · refine cw_region ?_
        refine ow_vals 4 (j := 4) [0, 1, 2, 3, 15, 16, 17, 98] [(0, .int .i64 x0), (1, .int .i64 x1), (2, .int .i64 x2), (3, .int .i64 x3), (15, .pointer none), (16, .pointer (some ⟨r49_b2, 0, none⟩)), (17, .int .i64 0), (98, .bool (decide (x1 > x0)))] rfl (by kernel_rfl) ?_
        rcases if_some hF with ⟨h105, hF⟩ | ⟨h105, hF⟩
        · refine ow_slots (L' := [(0, .int .i64 x0), (1, .int .i64 x1), (2, .int .i64 x2), (3, .int .i64 x3), (15, .pointer none), (16, .pointer (some ⟨r49_b2, 0, none⟩)), (17, .int .i64 0), (98, .bool true)]) (by rw [h105]) ?_
          refine ow_vals 6 (j := 10) [1, 2, 3, 15, 16, 17, 104] [(1, .int .i64 x1), (2, .int .i64 x2), (3, .int .i64 x3), (15, .pointer none), (16, .pointer (some ⟨r49_b2, 0, none⟩)), (17, .int .i64 0), (104, .bool true)] rfl (by kernel_rfl) ?_
          refine ow_end rfl ?_
          have hR := Option.some.inj hF
          exact fun a w hf hs => ⟨true, hR, hf.keep [1, 2, 3, 15, 16, 17, 104], sat_to [0, 0, 0, 0, 0, 0, 0] 0 rfl hs⟩
        refine ow_slots (L' := [(0, .int .i64 x0), (1, .int .i64 x1), (2, .int .i64 x2), (3, .int .i64 x3), (15, .pointer none), (16, .pointer (some ⟨r49_b2, 0, none⟩)), (17, .int .i64 0), (98, .bool false)]) (by rw [h105]) ?_
        refine ow_vals 6 (j := 10) [1, 2, 3, 15, 16, 17, 104] [(1, .int .i64 x1), (2, .int .i64 x2), (3, .int .i64 x3), (15, .pointer none), (16, .pointer (some ⟨r49_b2, 0, none⟩)), (17, .int .i64 0), (104, .bool (decide (x2 > (IntKind.i64.wrap (x0 - x1)))))] rfl (by kernel_rfl) ?_
        refine ow_end rfl ?_
        have hR := Option.some.inj hF
        exact fun a w hf hs => ⟨decide (x2 > (IntKind.i64.wrap (x0 - x1))), hR, hf.keep [1, 2, 3, 15, 16, 17, 104], sat_to [0, 0, 0, 0, 0, 0, 0] 0 rfl hs⟩
      rintro a w ⟨x106, hv, hf, hs⟩
      subst hv
      replace hF := hK104
      clear hK104
      try dsimp only at hF
      revert a w
      show CW _ _ _ 166 [(1, .int .i64 x1), (2, .int .i64 x2), (3, .int .i64 x3), (15, .pointer none), (16, .pointer (some ⟨r49_b2, 0, none⟩)), (17, .int .i64 0), (104, .bool x106)] (SAT w0 ([imm I, pt r38_b2 #[.pointer (some ⟨r28_b2, 0, none⟩), .int .i64 r38_s1.boot_, .int .i64 r38_s1.n_] 72, pt r28_b2 #[.slice r28_p4 r28_s1.sure_.length r28_c5, .map (some r28_b7), .bool r28_s1.off_, .bool r28_s1.armed_, .int .i64 r28_s1.left_, .int .u64 r28_s1.fall_.Keep, .int .i64 r28_s1.fall_.Tear, .int .i64 r28_s1.acts_, .int .i64 r28_s1.falls_] 62, pt r49_b2 #[.pointer (some ⟨r38_b2, 0, none⟩), .int .i64 r49_s1.base_, .int .i64 r49_s1.size_, .int .i64 r49_s1.next_, .int .i64 r49_s1.last_, .slice r49_p4 r49_s1.list_.length r49_c5, .int .i64 r49_s1.sure_, .bool r49_s1.dead_] 26, own e_disk_sector 65 r28_p4 r28_c5 r28_s1.sure_, mpo (kInt .i64) (fun x : disk_sector => Value.agg #[.string x.s_, .int .i64 x.at_]) r28_b7 r28_s1.wait_, own eStr 9 r49_p4 r49_c5 r49_s1.list_] ++ F0))
      unfold F.law12_JournalOpens.r13 at hF
      rcases if_some hF with ⟨h107, hF⟩ | ⟨h107, hF⟩
      · refine cw_cond_t rfl rfl h107 ?_
        refine cw_seq ?_
        refine cw_region ?_
        refine ow_vals 10 (j := 10) [10] [(10, .bool false)] rfl (by kernel_rfl) ?_
        refine ow_end rfl ?_
        refine ew_then ?_
        refine cw_ret ?_
        refine ew_then_ret ?_
        have hR := Option.some.inj hF
        subst hR
        have hR := hK103
        try dsimp only [Thru] at hR
        subst hR
        exact fin1 (H1 := [imm I]) (fun w hs => sat_to [1, 1, 1, 1, 1, 1, 0] 6 rfl hs) rfl (rr_tmp rfl) ⟨rfl, rfl⟩
      refine cw_cond_f rfl rfl h107 ?_
      refine cw_skip ?_
      have hR := Option.some.inj hF
      exact fun a w hf hs => ⟨hR, hf.keep [1, 2, 3, 15, 16, 17], sat_to [0, 0, 0, 0, 0, 0, 0] 0 rfl hs⟩
    rintro a w ⟨hv, hf, hs⟩
    subst hv
    replace hF := hK103
    clear hK103
    try dsimp only [Thru] at hF
    revert a w
    show CW _ _ _ 166 [(1, .int .i64 x1), (2, .int .i64 x2), (3, .int .i64 x3), (15, .pointer none), (16, .pointer (some ⟨r49_b2, 0, none⟩)), (17, .int .i64 0)] (SAT w0 ([imm I, pt r38_b2 #[.pointer (some ⟨r28_b2, 0, none⟩), .int .i64 r38_s1.boot_, .int .i64 r38_s1.n_] 72, pt r28_b2 #[.slice r28_p4 r28_s1.sure_.length r28_c5, .map (some r28_b7), .bool r28_s1.off_, .bool r28_s1.armed_, .int .i64 r28_s1.left_, .int .u64 r28_s1.fall_.Keep, .int .i64 r28_s1.fall_.Tear, .int .i64 r28_s1.acts_, .int .i64 r28_s1.falls_] 62, pt r49_b2 #[.pointer (some ⟨r38_b2, 0, none⟩), .int .i64 r49_s1.base_, .int .i64 r49_s1.size_, .int .i64 r49_s1.next_, .int .i64 r49_s1.last_, .slice r49_p4 r49_s1.list_.length r49_c5, .int .i64 r49_s1.sure_, .bool r49_s1.dead_] 26, own e_disk_sector 65 r28_p4 r28_c5 r28_s1.sure_, mpo (kInt .i64) (fun x : disk_sector => Value.agg #[.string x.s_, .int .i64 x.at_]) r28_b7 r28_s1.wait_, own eStr 9 r49_p4 r49_c5 r49_s1.list_] ++ F0))
    unfold F.law12_JournalOpens.r14 at hF
    obtain ⟨v108, hF, hK108⟩ := bind_some hF
    refine cw_mid (fun a w => () = v108 ∧ Fr 166 [(2, .int .i64 x2), (16, .pointer (some ⟨r49_b2, 0, none⟩)), (17, .int .i64 0), (20, .bool false)] a ∧ SAT w0 ([imm I, pt r38_b2 #[.pointer (some ⟨r28_b2, 0, none⟩), .int .i64 r38_s1.boot_, .int .i64 r38_s1.n_] 72, pt r28_b2 #[.slice r28_p4 r28_s1.sure_.length r28_c5, .map (some r28_b7), .bool r28_s1.off_, .bool r28_s1.armed_, .int .i64 r28_s1.left_, .int .u64 r28_s1.fall_.Keep, .int .i64 r28_s1.fall_.Tear, .int .i64 r28_s1.acts_, .int .i64 r28_s1.falls_] 62, pt r49_b2 #[.pointer (some ⟨r38_b2, 0, none⟩), .int .i64 r49_s1.base_, .int .i64 r49_s1.size_, .int .i64 r49_s1.next_, .int .i64 r49_s1.last_, .slice r49_p4 r49_s1.list_.length r49_c5, .int .i64 r49_s1.sure_, .bool r49_s1.dead_] 26, own e_disk_sector 65 r28_p4 r28_c5 r28_s1.sure_, mpo (kInt .i64) (fun x : disk_sector => Value.agg #[.string x.s_, .int .i64 x.at_]) r28_b7 r28_s1.wait_, own eStr 9 r49_p4 r49_c5 r49_s1.list_] ++ F0) w) ?_ ?_
    · refine cw_region ?_
      refine ow_vals 22 (j := 22) [2, 16, 17, 20] [(2, .int .i64 x2), (16, .pointer (some ⟨r49_b2, 0, none⟩)), (17, .int .i64 0), (20, .bool false)] rfl (by kernel_rfl) ?_
      refine ow_end rfl ?_
      have hR := Option.some.inj hF
      exact fun a w hf hs => ⟨hR, hf.keep [2, 16, 17, 20], sat_to [0, 0, 0, 0, 0, 0, 0] 0 rfl hs⟩
    rintro a w ⟨hv, hf, hs⟩
    subst hv
    replace hF := hK108
    clear hK108
    try dsimp only at hF
    revert a w
    show CW _ _ _ 166 [(2, .int .i64 x2), (16, .pointer (some ⟨r49_b2, 0, none⟩)), (17, .int .i64 0), (20, .bool false)] (SAT w0 ([imm I, pt r38_b2 #[.pointer (some ⟨r28_b2, 0, none⟩), .int .i64 r38_s1.boot_, .int .i64 r38_s1.n_] 72, pt r28_b2 #[.slice r28_p4 r28_s1.sure_.length r28_c5, .map (some r28_b7), .bool r28_s1.off_, .bool r28_s1.armed_, .int .i64 r28_s1.left_, .int .u64 r28_s1.fall_.Keep, .int .i64 r28_s1.fall_.Tear, .int .i64 r28_s1.acts_, .int .i64 r28_s1.falls_] 62, pt r49_b2 #[.pointer (some ⟨r38_b2, 0, none⟩), .int .i64 r49_s1.base_, .int .i64 r49_s1.size_, .int .i64 r49_s1.next_, .int .i64 r49_s1.last_, .slice r49_p4 r49_s1.list_.length r49_c5, .int .i64 r49_s1.sure_, .bool r49_s1.dead_] 26, own e_disk_sector 65 r28_p4 r28_c5 r28_s1.sure_, mpo (kInt .i64) (fun x : disk_sector => Value.agg #[.string x.s_, .int .i64 x.at_]) r28_b7 r28_s1.wait_, own eStr 9 r49_p4 r49_c5 r49_s1.list_] ++ F0))
    unfold F.law12_JournalOpens.r15 at hF
    refine cw_seq ?_
    refine cw_region ?_
    refine ow_vals 4 (j := 4) [2, 16, 20, 137, 138] [(2, .int .i64 x2), (16, .pointer (some ⟨r49_b2, 0, none⟩)), (20, .bool false), (137, .bool true), (138, .pointer (some ⟨r49_b2, 0, none⟩))] rfl (by kernel_rfl) ?_
    obtain ⟨r109, h110, hF⟩ := bind_some hF
    refine ow_pw rfl (pw_call (F := [] ++ F0) rfl rfl rfl rfl rfl rfl rfl (by kernel_rfl) (perm_of_pulls [0, 2, 0, 0, 2, 0, 0] rfl) (c_journal_Journal_Records_1 _ r49_s1 r38_s1 r28_s1 r49_p4 r49_c5 r49_b2 r38_b2 r28_p4 r28_c5 r28_b7 r28_b2 r109 h110) ?_)
    rintro _ _ ⟨r109_p1, r109_c2, rfl, rfl⟩
    refine nw_H (H' := [imm I, pt r49_b2 #[.pointer (some ⟨r38_b2, 0, none⟩), .int .i64 r49_s1.base_, .int .i64 r49_s1.size_, .int .i64 r49_s1.next_, .int .i64 r49_s1.last_, .slice r49_p4 r49_s1.list_.length r49_c5, .int .i64 r49_s1.sure_, .bool r49_s1.dead_] 26, pt r38_b2 #[.pointer (some ⟨r28_b2, 0, none⟩), .int .i64 r38_s1.boot_, .int .i64 r38_s1.n_] 72, pt r28_b2 #[.slice r28_p4 r28_s1.sure_.length r28_c5, .map (some r28_b7), .bool r28_s1.off_, .bool r28_s1.armed_, .int .i64 r28_s1.left_, .int .u64 r28_s1.fall_.Keep, .int .i64 r28_s1.fall_.Tear, .int .i64 r28_s1.acts_, .int .i64 r28_s1.falls_] 62, own eStr 9 r109_p1 r109_c2 r109, own eStr 9 r49_p4 r49_c5 r49_s1.list_, own e_disk_sector 65 r28_p4 r28_c5 r28_s1.sure_, mpo (kInt .i64) (fun x : disk_sector => Value.agg #[.string x.s_, .int .i64 x.at_]) r28_b7 r28_s1.wait_] ++ F0) rfl (nw_ow ?_)
    refine ow_vals 6 (j := 11) [2, 16, 20, 145] [(2, .int .i64 x2), (16, .pointer (some ⟨r49_b2, 0, none⟩)), (20, .bool false), (145, .bool (((r109.length : Int) == 1) == false))] rfl (by kernel_rfl) ?_
    rcases if_some hF with ⟨h112, hF⟩ | ⟨h112, hF⟩
    · refine ow_slots (L' := [(2, .int .i64 x2), (16, .pointer (some ⟨r49_b2, 0, none⟩)), (20, .bool false), (145, .bool true)]) (by rw [h112]) ?_
      refine ow_vals 1 (j := 12) [2, 16, 20, 145, 146] [(2, .int .i64 x2), (16, .pointer (some ⟨r49_b2, 0, none⟩)), (20, .bool false), (145, .bool true), (146, .pointer (some ⟨r49_b2, 0, none⟩))] rfl (by kernel_rfl) ?_
      obtain ⟨r113, h114, hF⟩ := bind_some hF
      refine ow_pw rfl (pw_call (F := [own eStr 9 r109_p1 r109_c2 r109] ++ F0) rfl rfl rfl rfl rfl rfl rfl (by kernel_rfl) (perm_of_pulls [0, 0, 0, 0, 1, 1, 1] rfl) (c_journal_Journal_Records_1 _ r49_s1 r38_s1 r28_s1 r49_p4 r49_c5 r49_b2 r38_b2 r28_p4 r28_c5 r28_b7 r28_b2 r113 h114) ?_)
      rintro _ _ ⟨r113_p1, r113_c2, rfl, rfl⟩
      refine nw_H (H' := [imm I, pt r49_b2 #[.pointer (some ⟨r38_b2, 0, none⟩), .int .i64 r49_s1.base_, .int .i64 r49_s1.size_, .int .i64 r49_s1.next_, .int .i64 r49_s1.last_, .slice r49_p4 r49_s1.list_.length r49_c5, .int .i64 r49_s1.sure_, .bool r49_s1.dead_] 26, pt r38_b2 #[.pointer (some ⟨r28_b2, 0, none⟩), .int .i64 r38_s1.boot_, .int .i64 r38_s1.n_] 72, pt r28_b2 #[.slice r28_p4 r28_s1.sure_.length r28_c5, .map (some r28_b7), .bool r28_s1.off_, .bool r28_s1.armed_, .int .i64 r28_s1.left_, .int .u64 r28_s1.fall_.Keep, .int .i64 r28_s1.fall_.Tear, .int .i64 r28_s1.acts_, .int .i64 r28_s1.falls_] 62, own eStr 9 r113_p1 r113_c2 r113, own eStr 9 r49_p4 r49_c5 r49_s1.list_, own e_disk_sector 65 r28_p4 r28_c5 r28_s1.sure_, mpo (kInt .i64) (fun x : disk_sector => Value.agg #[.string x.s_, .int .i64 x.at_]) r28_b7 r28_s1.wait_, own eStr 9 r109_p1 r109_c2 r109] ++ F0) rfl (nw_ow ?_)
      refine ow_vals 7 (j := 20) [2, 16, 154] [(2, .int .i64 x2), (16, .pointer (some ⟨r49_b2, 0, none⟩)), (154, .bool (((r113.length : Int) == 0) == true))] rfl (by kernel_rfl) ?_
      rcases if_some hF with ⟨h116, hF⟩ | ⟨h116, hF⟩
      · refine ow_slots (L' := [(2, .int .i64 x2), (16, .pointer (some ⟨r49_b2, 0, none⟩)), (154, .bool true)]) (by rw [h116]) ?_
        refine ow_vals 1 (j := 21) [2, 16, 154, 155] [(2, .int .i64 x2), (16, .pointer (some ⟨r49_b2, 0, none⟩)), (154, .bool true), (155, .pointer (some ⟨r49_b2, 0, none⟩))] rfl (by kernel_rfl) ?_
        obtain ⟨r117, h118, hF⟩ := bind_some hF
        refine ow_pw rfl (pw_call (F := [own eStr 9 r113_p1 r113_c2 r113, own eStr 9 r109_p1 r109_c2 r109] ++ F0) rfl rfl rfl rfl rfl rfl rfl (by kernel_rfl) (perm_of_pulls [0, 0, 0, 0, 1, 1, 1] rfl) (c_journal_Journal_Left _ r49_s1 r38_s1 r28_s1 r49_p4 r49_c5 r49_b2 r38_b2 r28_p4 r28_c5 r28_b7 r28_b2 r117 h118) ?_)
        rintro _ _ ⟨rfl, rfl⟩
        refine nw_H (H' := [imm I, pt r49_b2 #[.pointer (some ⟨r38_b2, 0, none⟩), .int .i64 r49_s1.base_, .int .i64 r49_s1.size_, .int .i64 r49_s1.next_, .int .i64 r49_s1.last_, .slice r49_p4 r49_s1.list_.length r49_c5, .int .i64 r49_s1.sure_, .bool r49_s1.dead_] 26, pt r38_b2 #[.pointer (some ⟨r28_b2, 0, none⟩), .int .i64 r38_s1.boot_, .int .i64 r38_s1.n_] 72, pt r28_b2 #[.slice r28_p4 r28_s1.sure_.length r28_c5, .map (some r28_b7), .bool r28_s1.off_, .bool r28_s1.armed_, .int .i64 r28_s1.left_, .int .u64 r28_s1.fall_.Keep, .int .i64 r28_s1.fall_.Tear, .int .i64 r28_s1.acts_, .int .i64 r28_s1.falls_] 62, own eStr 9 r49_p4 r49_c5 r49_s1.list_, own e_disk_sector 65 r28_p4 r28_c5 r28_s1.sure_, mpo (kInt .i64) (fun x : disk_sector => Value.agg #[.string x.s_, .int .i64 x.at_]) r28_b7 r28_s1.wait_, own eStr 9 r113_p1 r113_c2 r113, own eStr 9 r109_p1 r109_c2 r109] ++ F0) rfl (nw_ow ?_)
        refine ow_vals 2 (j := 24) [154, 156, 157, 158] [(154, .bool true), (156, .int .i64 r117), (157, .int .i64 x2), (158, .pointer (some ⟨r49_b2, 0, none⟩))] rfl (by kernel_rfl) ?_
        obtain ⟨r119, h120, hF⟩ := bind_some hF
        refine ow_pw rfl (pw_call (F := [own eStr 9 r113_p1 r113_c2 r113, own eStr 9 r109_p1 r109_c2 r109] ++ F0) rfl rfl rfl rfl rfl rfl rfl (by kernel_rfl) (perm_of_pulls [0, 0, 0, 0, 0, 0, 0] rfl) (c_journal_Journal_Used _ r49_s1 r38_s1 r28_s1 r49_p4 r49_c5 r49_b2 r38_b2 r28_p4 r28_c5 r28_b7 r28_b2 r119 h120) ?_)
        rintro _ _ ⟨rfl, rfl⟩
        refine nw_H (H' := [imm I, pt r49_b2 #[.pointer (some ⟨r38_b2, 0, none⟩), .int .i64 r49_s1.base_, .int .i64 r49_s1.size_, .int .i64 r49_s1.next_, .int .i64 r49_s1.last_, .slice r49_p4 r49_s1.list_.length r49_c5, .int .i64 r49_s1.sure_, .bool r49_s1.dead_] 26, pt r38_b2 #[.pointer (some ⟨r28_b2, 0, none⟩), .int .i64 r38_s1.boot_, .int .i64 r38_s1.n_] 72, pt r28_b2 #[.slice r28_p4 r28_s1.sure_.length r28_c5, .map (some r28_b7), .bool r28_s1.off_, .bool r28_s1.armed_, .int .i64 r28_s1.left_, .int .u64 r28_s1.fall_.Keep, .int .i64 r28_s1.fall_.Tear, .int .i64 r28_s1.acts_, .int .i64 r28_s1.falls_] 62, own eStr 9 r49_p4 r49_c5 r49_s1.list_, own e_disk_sector 65 r28_p4 r28_c5 r28_s1.sure_, mpo (kInt .i64) (fun x : disk_sector => Value.agg #[.string x.s_, .int .i64 x.at_]) r28_b7 r28_s1.wait_, own eStr 9 r113_p1 r113_c2 r113, own eStr 9 r109_p1 r109_c2 r109] ++ F0) rfl (nw_ow ?_)
        refine ow_vals 4 (j := 29) [163] [(163, .bool (r117 == (IntKind.i64.wrap (x2 - r119))))] rfl (by kernel_rfl) ?_
        rcases if_some hF with ⟨h121, hF⟩ | ⟨h121, hF⟩
        · refine ow_slots (L' := [(163, .bool true)]) (by rw [h121]) ?_
          obtain ⟨r122, h123, hF⟩ := bind_some hF
          refine ow_pw rfl (pw_call (F := [pt r49_b2 #[.pointer (some ⟨r38_b2, 0, none⟩), .int .i64 r49_s1.base_, .int .i64 r49_s1.size_, .int .i64 r49_s1.next_, .int .i64 r49_s1.last_, .slice r49_p4 r49_s1.list_.length r49_c5, .int .i64 r49_s1.sure_, .bool r49_s1.dead_] 26, pt r38_b2 #[.pointer (some ⟨r28_b2, 0, none⟩), .int .i64 r38_s1.boot_, .int .i64 r38_s1.n_] 72, pt r28_b2 #[.slice r28_p4 r28_s1.sure_.length r28_c5, .map (some r28_b7), .bool r28_s1.off_, .bool r28_s1.armed_, .int .i64 r28_s1.left_, .int .u64 r28_s1.fall_.Keep, .int .i64 r28_s1.fall_.Tear, .int .i64 r28_s1.acts_, .int .i64 r28_s1.falls_] 62, own eStr 9 r49_p4 r49_c5 r49_s1.list_, own e_disk_sector 65 r28_p4 r28_c5 r28_s1.sure_, mpo (kInt .i64) (fun x : disk_sector => Value.agg #[.string x.s_, .int .i64 x.at_]) r28_b7 r28_s1.wait_, own eStr 9 r113_p1 r113_c2 r113, own eStr 9 r109_p1 r109_c2 r109] ++ F0) rfl rfl rfl rfl rfl rfl rfl (by kernel_rfl) (perm_of_pulls [0] rfl) (c_law12_awake _ r122 h123) ?_)
          rintro _ _ ⟨rfl, rfl⟩
          refine nw_H (H' := [imm I, pt r49_b2 #[.pointer (some ⟨r38_b2, 0, none⟩), .int .i64 r49_s1.base_, .int .i64 r49_s1.size_, .int .i64 r49_s1.next_, .int .i64 r49_s1.last_, .slice r49_p4 r49_s1.list_.length r49_c5, .int .i64 r49_s1.sure_, .bool r49_s1.dead_] 26, pt r38_b2 #[.pointer (some ⟨r28_b2, 0, none⟩), .int .i64 r38_s1.boot_, .int .i64 r38_s1.n_] 72, pt r28_b2 #[.slice r28_p4 r28_s1.sure_.length r28_c5, .map (some r28_b7), .bool r28_s1.off_, .bool r28_s1.armed_, .int .i64 r28_s1.left_, .int .u64 r28_s1.fall_.Keep, .int .i64 r28_s1.fall_.Tear, .int .i64 r28_s1.acts_, .int .i64 r28_s1.falls_] 62, own eStr 9 r49_p4 r49_c5 r49_s1.list_, own e_disk_sector 65 r28_p4 r28_c5 r28_s1.sure_, mpo (kInt .i64) (fun x : disk_sector => Value.agg #[.string x.s_, .int .i64 x.at_]) r28_b7 r28_s1.wait_, own eStr 9 r113_p1 r113_c2 r113, own eStr 9 r109_p1 r109_c2 r109] ++ F0) rfl (nw_ow ?_)
          refine ow_vals 2 (j := 32) [10] [(10, .bool r122)] rfl (by kernel_rfl) ?_
          refine ow_end rfl ?_
          refine ew_then ?_
          refine cw_ret ?_
          have hR := Option.some.inj hF
          subst hR
          exact fin1 (H1 := [imm I]) (fun w hs => sat_to [1, 1, 1, 1, 1, 1, 1, 1, 0] 8 rfl hs) rfl (rr_tmp rfl) ⟨rfl, rfl⟩
        refine ow_slots (L' := [(163, .bool false)]) (by rw [h121]) ?_
        refine ow_vals 3 (j := 32) [10] [(10, .bool false)] rfl (by kernel_rfl) ?_
        refine ow_end rfl ?_
        refine ew_then ?_
        refine cw_ret ?_
        have hR := Option.some.inj hF
        subst hR
        exact fin1 (H1 := [imm I]) (fun w hs => sat_to [1, 1, 1, 1, 1, 1, 1, 1, 0] 8 rfl hs) rfl (rr_tmp rfl) ⟨rfl, rfl⟩
      refine ow_slots (L' := [(2, .int .i64 x2), (16, .pointer (some ⟨r49_b2, 0, none⟩)), (154, .bool false)]) (by rw [h116]) ?_
      refine ow_vals 12 (j := 32) [10] [(10, .bool false)] rfl (by kernel_rfl) ?_
      refine ow_end rfl ?_
      refine ew_then ?_
      refine cw_ret ?_
      have hR := Option.some.inj hF
      subst hR
      exact fin1 (H1 := [imm I]) (fun w hs => sat_to [1, 1, 1, 1, 1, 1, 1, 1, 0] 8 rfl hs) rfl (rr_tmp rfl) ⟨rfl, rfl⟩
    refine ow_slots (L' := [(2, .int .i64 x2), (16, .pointer (some ⟨r49_b2, 0, none⟩)), (20, .bool false), (145, .bool false)]) (by rw [h112]) ?_
    refine ow_vals 21 (j := 32) [10] [(10, .bool false)] rfl (by kernel_rfl) ?_
    refine ow_end rfl ?_
    refine ew_then ?_
    refine cw_ret ?_
    have hR := Option.some.inj hF
    subst hR
    exact fin1 (H1 := [imm I]) (fun w hs => sat_to [1, 1, 1, 1, 1, 1, 1, 0] 7 rfl hs) rfl (rr_tmp rfl) ⟨rfl, rfl⟩
  rw [hO] at hF
  try dsimp only [optC] at hF
  refine nw_H (H' := [imm I, pt r28_b2 #[.slice r28_p4 r28_s1.sure_.length r28_c5, .map (some r28_b7), .bool r28_s1.off_, .bool r28_s1.armed_, .int .i64 r28_s1.left_, .int .u64 r28_s1.fall_.Keep, .int .i64 r28_s1.fall_.Tear, .int .i64 r28_s1.acts_, .int .i64 r28_s1.falls_] 62, pt r43_b4 #[.pointer (some ⟨r28_b2, 0, none⟩), .int .i64 r43_s1.2.boot_, .int .i64 r43_s1.2.n_] 72, pt r43_b2 #[.pointer (some ⟨r43_b4, 0, none⟩), .int .i64 r43_s1.1.base_, .int .i64 r43_s1.1.size_, .int .i64 r43_s1.1.next_, .int .i64 r43_s1.1.last_, .slice r43_p6 r43_s1.1.list_.length r43_c7, .int .i64 r43_s1.1.sure_, .bool r43_s1.1.dead_] 26, own eStr 9 r43_p6 r43_c7 r43_s1.1.list_, own e_disk_sector 65 r28_p4 r28_c5 r28_s1.sure_, mpo (kInt .i64) (fun x : disk_sector => Value.agg #[.string x.s_, .int .i64 x.at_]) r28_b7 r28_s1.wait_, pt r38_b2 #[.pointer (some ⟨r28_b2, 0, none⟩), .int .i64 r38_s1.boot_, .int .i64 r38_s1.n_] 72] ++ F0) rfl (nw_ow ?_)
  refine ow_vals 1 (j := 3) [0, 1, 2, 3, 4, 13, 15] [(0, .int .i64 x0), (1, .int .i64 x1), (2, .int .i64 x2), (3, .int .i64 x3), (4, .string x4), (13, .pointer (some ⟨r38_b2, 0, none⟩)), (15, .pointer (some ⟨r43_b2, 0, none⟩))] rfl (by kernel_rfl) ?_
  refine ow_end rfl ?_
  refine ew_then ?_
  obtain ⟨v124, hF, hK124⟩ := bind_some hF
  refine cw_mid (fun a w => ∃ (x130 : Int), ∃ (x131 : Int), ∃ (x132 : Int), ∃ (x133 : Int), ∃ (l134 : List ByteArray), ∃ (x138 : Int), ∃ (x139 : Bool), ∃ (x140 : Int), ∃ (x141 : Int), ∃ (l142 : List disk_sector), ∃ (l146 : List (Int × disk_sector)), ∃ (x149 : Bool), ∃ (x150 : Bool), ∃ (x151 : Int), ∃ (x152 : Int), ∃ (x153 : Int), ∃ (x154 : Int), ∃ (x155 : Int), ∃ (p135 : Option Addr), ∃ (c136 : Nat), ∃ (p143 : Option Addr), ∃ (c144 : Nat), ∃ (b148 : Nat), (x130, x131, x132, x133, l134, x138, x139, x140, x141, l142, l146, x149, x150, x151, x152, x153, x154, x155) = v124 ∧ Fr 166 [(0, .int .i64 x0), (1, .int .i64 x1), (2, .int .i64 x2), (3, .int .i64 x3), (13, .pointer (some ⟨r38_b2, 0, none⟩)), (15, .pointer (some ⟨r43_b2, 0, none⟩))] a ∧ SAT w0 ([imm I, pt r43_b2 #[.pointer (some ⟨r43_b4, 0, none⟩), .int .i64 x130, .int .i64 x131, .int .i64 x132, .int .i64 x133, .slice p135 l134.length c136, .int .i64 x138, .bool x139] 26, pt r43_b4 #[.pointer (some ⟨r28_b2, 0, none⟩), .int .i64 x140, .int .i64 x141] 72, pt r28_b2 #[.slice p143 l142.length c144, .map (some b148), .bool x149, .bool x150, .int .i64 x151, .int .u64 x152, .int .i64 x153, .int .i64 x154, .int .i64 x155] 62, pt r38_b2 #[.pointer (some ⟨r28_b2, 0, none⟩), .int .i64 r38_s1.boot_, .int .i64 r38_s1.n_] 72, own eStr 9 p135 c136 l134, own e_disk_sector 65 p143 c144 l142, mpo (kInt .i64) (fun x : disk_sector => Value.agg #[.string x.s_, .int .i64 x.at_]) b148 l146] ++ F0) w) ?_ ?_
  · refine cw_seq ?_
    refine cw_region ?_
    refine ow_vals 2 (j := 2) [0, 1, 2, 3, 4, 13, 15, 47] [(0, .int .i64 x0), (1, .int .i64 x1), (2, .int .i64 x2), (3, .int .i64 x3), (4, .string x4), (13, .pointer (some ⟨r38_b2, 0, none⟩)), (15, .pointer (some ⟨r43_b2, 0, none⟩)), (47, .bool true)] rfl (by kernel_rfl) ?_
    refine ow_end rfl ?_
    refine ew_then ?_
    refine cw_cond_t rfl rfl rfl ?_
    refine cw_region ?_
    refine ow_vals 2 (j := 2) [0, 1, 2, 3, 13, 15, 48, 49] [(0, .int .i64 x0), (1, .int .i64 x1), (2, .int .i64 x2), (3, .int .i64 x3), (13, .pointer (some ⟨r38_b2, 0, none⟩)), (15, .pointer (some ⟨r43_b2, 0, none⟩)), (48, .pointer (some ⟨r43_b2, 0, none⟩)), (49, .string x4)] rfl (by kernel_rfl) ?_
    obtain ⟨r125, h126, hF⟩ := bind_some hF
    refine ow_pw rfl (pw_call (F := [pt r38_b2 #[.pointer (some ⟨r28_b2, 0, none⟩), .int .i64 r38_s1.boot_, .int .i64 r38_s1.n_] 72] ++ F0) rfl rfl rfl rfl rfl rfl rfl (by kernel_rfl) (perm_of_pulls [0, 2, 1, 0, 0, 0, 0] rfl) (c_journal_Journal_Append _ x4 r43_s1.1 r43_s1.2 r28_s1 r43_p6 r43_c7 r43_b2 r43_b4 r28_p4 r28_c5 r28_b7 r28_b2 r125 h126) ?_)
    rintro _ _ ⟨r125_p1, r125_c2, r125_p4, r125_c5, r125_b7, rfl, rfl⟩
    refine nw_H (H' := [imm I, pt r43_b2 #[.pointer (some ⟨r43_b4, 0, none⟩), .int .i64 r125.2.1.base_, .int .i64 r125.2.1.size_, .int .i64 r125.2.1.next_, .int .i64 r125.2.1.last_, .slice r125_p1 r125.2.1.list_.length r125_c2, .int .i64 r125.2.1.sure_, .bool r125.2.1.dead_] 26, pt r43_b4 #[.pointer (some ⟨r28_b2, 0, none⟩), .int .i64 r125.2.2.1.boot_, .int .i64 r125.2.2.1.n_] 72, pt r28_b2 #[.slice r125_p4 r125.2.2.2.sure_.length r125_c5, .map (some r125_b7), .bool r125.2.2.2.off_, .bool r125.2.2.2.armed_, .int .i64 r125.2.2.2.left_, .int .u64 r125.2.2.2.fall_.Keep, .int .i64 r125.2.2.2.fall_.Tear, .int .i64 r125.2.2.2.acts_, .int .i64 r125.2.2.2.falls_] 62, own eStr 9 r125_p1 r125_c2 r125.2.1.list_, own e_disk_sector 65 r125_p4 r125_c5 r125.2.2.2.sure_, mpo (kInt .i64) (fun x : disk_sector => Value.agg #[.string x.s_, .int .i64 x.at_]) r125_b7 r125.2.2.2.wait_, pt r38_b2 #[.pointer (some ⟨r28_b2, 0, none⟩), .int .i64 r38_s1.boot_, .int .i64 r38_s1.n_] 72] ++ F0) rfl (nw_ow ?_)
    refine ow_end rfl ?_
    have hR := Option.some.inj hF
    exact fun a w hf hs => ⟨r125.2.1.base_, r125.2.1.size_, r125.2.1.next_, r125.2.1.last_, r125.2.1.list_, r125.2.1.sure_, r125.2.1.dead_, r125.2.2.1.boot_, r125.2.2.1.n_, r125.2.2.2.sure_, r125.2.2.2.wait_, r125.2.2.2.off_, r125.2.2.2.armed_, r125.2.2.2.left_, r125.2.2.2.fall_.Keep, r125.2.2.2.fall_.Tear, r125.2.2.2.acts_, r125.2.2.2.falls_, r125_p1, r125_c2, r125_p4, r125_c5, r125_b7, hR, hf.keep [0, 1, 2, 3, 13, 15], sat_to [0, 0, 0, 0, 3, 0, 0, 0] 0 rfl hs⟩
  rintro a w ⟨x130, x131, x132, x133, l134, x138, x139, x140, x141, l142, l146, x149, x150, x151, x152, x153, x154, x155, p135, c136, p143, c144, b148, hv, hf, hs⟩
  subst hv
  replace hF := hK124
  clear hK124
  try dsimp only at hF
  revert a w
  show CW _ _ _ 166 [(0, .int .i64 x0), (1, .int .i64 x1), (2, .int .i64 x2), (3, .int .i64 x3), (13, .pointer (some ⟨r38_b2, 0, none⟩)), (15, .pointer (some ⟨r43_b2, 0, none⟩))] (SAT w0 ([imm I, pt r43_b2 #[.pointer (some ⟨r43_b4, 0, none⟩), .int .i64 x130, .int .i64 x131, .int .i64 x132, .int .i64 x133, .slice p135 l134.length c136, .int .i64 x138, .bool x139] 26, pt r43_b4 #[.pointer (some ⟨r28_b2, 0, none⟩), .int .i64 x140, .int .i64 x141] 72, pt r28_b2 #[.slice p143 l142.length c144, .map (some b148), .bool x149, .bool x150, .int .i64 x151, .int .u64 x152, .int .i64 x153, .int .i64 x154, .int .i64 x155] 62, pt r38_b2 #[.pointer (some ⟨r28_b2, 0, none⟩), .int .i64 r38_s1.boot_, .int .i64 r38_s1.n_] 72, own eStr 9 p135 c136 l134, own e_disk_sector 65 p143 c144 l142, mpo (kInt .i64) (fun x : disk_sector => Value.agg #[.string x.s_, .int .i64 x.at_]) b148 l146] ++ F0))
  unfold F.law12_JournalOpens.r16 at hF
  refine cw_seq ?_
  refine cw_region ?_
  refine ow_vals 4 (j := 4) [0, 1, 2, 3, 15, 52, 53, 54, 55] [(0, .int .i64 x0), (1, .int .i64 x1), (2, .int .i64 x2), (3, .int .i64 x3), (15, .pointer (some ⟨r43_b2, 0, none⟩)), (52, .pointer (some ⟨r38_b2, 0, none⟩)), (53, .int .i64 x1), (54, .int .i64 x2), (55, .int .i64 x3)] rfl (by kernel_rfl) ?_
  obtain ⟨r156, h157, hF⟩ := bind_some hF
  refine ow_pw rfl (pw_call (F := [pt r43_b2 #[.pointer (some ⟨r43_b4, 0, none⟩), .int .i64 x130, .int .i64 x131, .int .i64 x132, .int .i64 x133, .slice p135 l134.length c136, .int .i64 x138, .bool x139] 26, pt r43_b4 #[.pointer (some ⟨r28_b2, 0, none⟩), .int .i64 x140, .int .i64 x141] 72, own eStr 9 p135 c136 l134] ++ F0) rfl rfl rfl rfl rfl rfl rfl (by kernel_rfl) (perm_of_pulls [0, 3, 2, 3, 3] rfl) (c_journal_Open _ x1 x2 x3 r38_s1 (⟨l142, l146, x149, x150, x151, (⟨x152, x153⟩ : disk_Fall), x154, x155⟩ : disk_Disk) r38_b2 p143 c144 b148 r28_b2 r156 h157) ?_)
  rintro _ _ (⟨hO, rfl, rfl⟩ | ⟨r156_s1, r156_b2, r156_p4, r156_c5, hO, rfl, rfl⟩)
  · rw [hO] at hF
    try dsimp only [optC] at hF
    refine nw_H (H' := [imm I, pt r38_b2 #[.pointer (some ⟨r28_b2, 0, none⟩), .int .i64 r38_s1.boot_, .int .i64 r38_s1.n_] 72, pt r28_b2 #[.slice p143 ((⟨l142, l146, x149, x150, x151, (⟨x152, x153⟩ : disk_Fall), x154, x155⟩ : disk_Disk).sure_).length c144, .map (some b148), .bool ((⟨l142, l146, x149, x150, x151, (⟨x152, x153⟩ : disk_Fall), x154, x155⟩ : disk_Disk).off_), .bool ((⟨l142, l146, x149, x150, x151, (⟨x152, x153⟩ : disk_Fall), x154, x155⟩ : disk_Disk).armed_), .int .i64 ((⟨l142, l146, x149, x150, x151, (⟨x152, x153⟩ : disk_Fall), x154, x155⟩ : disk_Disk).left_), .int .u64 ((⟨l142, l146, x149, x150, x151, (⟨x152, x153⟩ : disk_Fall), x154, x155⟩ : disk_Disk).fall_.Keep), .int .i64 ((⟨l142, l146, x149, x150, x151, (⟨x152, x153⟩ : disk_Fall), x154, x155⟩ : disk_Disk).fall_.Tear), .int .i64 ((⟨l142, l146, x149, x150, x151, (⟨x152, x153⟩ : disk_Fall), x154, x155⟩ : disk_Disk).acts_), .int .i64 ((⟨l142, l146, x149, x150, x151, (⟨x152, x153⟩ : disk_Fall), x154, x155⟩ : disk_Disk).falls_)] 62, own e_disk_sector 65 p143 c144 ((⟨l142, l146, x149, x150, x151, (⟨x152, x153⟩ : disk_Fall), x154, x155⟩ : disk_Disk).sure_), mpo (kInt .i64) (fun x : disk_sector => Value.agg #[.string x.s_, .int .i64 x.at_]) b148 ((⟨l142, l146, x149, x150, x151, (⟨x152, x153⟩ : disk_Fall), x154, x155⟩ : disk_Disk).wait_), pt r43_b2 #[.pointer (some ⟨r43_b4, 0, none⟩), .int .i64 x130, .int .i64 x131, .int .i64 x132, .int .i64 x133, .slice p135 l134.length c136, .int .i64 x138, .bool x139] 26, pt r43_b4 #[.pointer (some ⟨r28_b2, 0, none⟩), .int .i64 x140, .int .i64 x141] 72, own eStr 9 p135 c136 l134] ++ F0) rfl (nw_ow ?_)
    refine ow_vals 5 (j := 10) [0, 1, 2, 3, 15, 16, 17] [(0, .int .i64 x0), (1, .int .i64 x1), (2, .int .i64 x2), (3, .int .i64 x3), (15, .pointer (some ⟨r43_b2, 0, none⟩)), (16, .pointer none), (17, .int .i64 r156.2)] rfl (by kernel_rfl) ?_
    refine ow_end rfl ?_
    refine ew_then ?_
    refine cw_seq ?_
    refine cw_region ?_
    refine ow_vals 3 (j := 3) [0, 1, 2, 3, 15, 16, 17, 60, 61, 62] [(0, .int .i64 x0), (1, .int .i64 x1), (2, .int .i64 x2), (3, .int .i64 x3), (15, .pointer (some ⟨r43_b2, 0, none⟩)), (16, .pointer none), (17, .int .i64 r156.2), (60, .int .i64 x1), (61, .int .i64 x2), (62, .int .i64 x3)] rfl (by kernel_rfl) ?_
    obtain ⟨r160, h161, hF⟩ := bind_some hF
    refine ow_pw rfl (pw_call (F := [pt r38_b2 #[.pointer (some ⟨r28_b2, 0, none⟩), .int .i64 r38_s1.boot_, .int .i64 r38_s1.n_] 72, pt r28_b2 #[.slice p143 ((⟨l142, l146, x149, x150, x151, (⟨x152, x153⟩ : disk_Fall), x154, x155⟩ : disk_Disk).sure_).length c144, .map (some b148), .bool ((⟨l142, l146, x149, x150, x151, (⟨x152, x153⟩ : disk_Fall), x154, x155⟩ : disk_Disk).off_), .bool ((⟨l142, l146, x149, x150, x151, (⟨x152, x153⟩ : disk_Fall), x154, x155⟩ : disk_Disk).armed_), .int .i64 ((⟨l142, l146, x149, x150, x151, (⟨x152, x153⟩ : disk_Fall), x154, x155⟩ : disk_Disk).left_), .int .u64 ((⟨l142, l146, x149, x150, x151, (⟨x152, x153⟩ : disk_Fall), x154, x155⟩ : disk_Disk).fall_.Keep), .int .i64 ((⟨l142, l146, x149, x150, x151, (⟨x152, x153⟩ : disk_Fall), x154, x155⟩ : disk_Disk).fall_.Tear), .int .i64 ((⟨l142, l146, x149, x150, x151, (⟨x152, x153⟩ : disk_Fall), x154, x155⟩ : disk_Disk).acts_), .int .i64 ((⟨l142, l146, x149, x150, x151, (⟨x152, x153⟩ : disk_Fall), x154, x155⟩ : disk_Disk).falls_)] 62, own e_disk_sector 65 p143 c144 ((⟨l142, l146, x149, x150, x151, (⟨x152, x153⟩ : disk_Fall), x154, x155⟩ : disk_Disk).sure_), mpo (kInt .i64) (fun x : disk_sector => Value.agg #[.string x.s_, .int .i64 x.at_]) b148 ((⟨l142, l146, x149, x150, x151, (⟨x152, x153⟩ : disk_Fall), x154, x155⟩ : disk_Disk).wait_), pt r43_b2 #[.pointer (some ⟨r43_b4, 0, none⟩), .int .i64 x130, .int .i64 x131, .int .i64 x132, .int .i64 x133, .slice p135 l134.length c136, .int .i64 x138, .bool x139] 26, pt r43_b4 #[.pointer (some ⟨r28_b2, 0, none⟩), .int .i64 x140, .int .i64 x141] 72, own eStr 9 p135 c136 l134] ++ F0) rfl rfl rfl rfl rfl rfl rfl (by kernel_rfl) (perm_of_pulls [0] rfl) (c_journal_Open_1 _ x1 x2 x3 r160 h161) ?_)
    rintro _ _ ⟨rfl, rfl⟩
    refine nw_H (H' := [imm I, pt r38_b2 #[.pointer (some ⟨r28_b2, 0, none⟩), .int .i64 r38_s1.boot_, .int .i64 r38_s1.n_] 72, pt r28_b2 #[.slice p143 ((⟨l142, l146, x149, x150, x151, (⟨x152, x153⟩ : disk_Fall), x154, x155⟩ : disk_Disk).sure_).length c144, .map (some b148), .bool ((⟨l142, l146, x149, x150, x151, (⟨x152, x153⟩ : disk_Fall), x154, x155⟩ : disk_Disk).off_), .bool ((⟨l142, l146, x149, x150, x151, (⟨x152, x153⟩ : disk_Fall), x154, x155⟩ : disk_Disk).armed_), .int .i64 ((⟨l142, l146, x149, x150, x151, (⟨x152, x153⟩ : disk_Fall), x154, x155⟩ : disk_Disk).left_), .int .u64 ((⟨l142, l146, x149, x150, x151, (⟨x152, x153⟩ : disk_Fall), x154, x155⟩ : disk_Disk).fall_.Keep), .int .i64 ((⟨l142, l146, x149, x150, x151, (⟨x152, x153⟩ : disk_Fall), x154, x155⟩ : disk_Disk).fall_.Tear), .int .i64 ((⟨l142, l146, x149, x150, x151, (⟨x152, x153⟩ : disk_Fall), x154, x155⟩ : disk_Disk).acts_), .int .i64 ((⟨l142, l146, x149, x150, x151, (⟨x152, x153⟩ : disk_Fall), x154, x155⟩ : disk_Disk).falls_)] 62, own e_disk_sector 65 p143 c144 ((⟨l142, l146, x149, x150, x151, (⟨x152, x153⟩ : disk_Fall), x154, x155⟩ : disk_Disk).sure_), mpo (kInt .i64) (fun x : disk_sector => Value.agg #[.string x.s_, .int .i64 x.at_]) b148 ((⟨l142, l146, x149, x150, x151, (⟨x152, x153⟩ : disk_Fall), x154, x155⟩ : disk_Disk).wait_), pt r43_b2 #[.pointer (some ⟨r43_b4, 0, none⟩), .int .i64 x130, .int .i64 x131, .int .i64 x132, .int .i64 x133, .slice p135 l134.length c136, .int .i64 x138, .bool x139] 26, pt r43_b4 #[.pointer (some ⟨r28_b2, 0, none⟩), .int .i64 x140, .int .i64 x141] 72, own eStr 9 p135 c136 l134] ++ F0) rfl (nw_ow ?_)
    refine ow_vals 5 (j := 9) [0, 1, 2, 3, 15, 16, 17, 18, 19] [(0, .int .i64 x0), (1, .int .i64 x1), (2, .int .i64 x2), (3, .int .i64 x3), (15, .pointer (some ⟨r43_b2, 0, none⟩)), (16, .pointer none), (17, .int .i64 r156.2), (18, .pointer none), (19, .int .i64 r160)] rfl (by kernel_rfl) ?_
    refine ow_end rfl ?_
    refine ew_then ?_
    obtain ⟨v162, hF, hK162⟩ := thru_some hF
    refine cw_mid (fun a w => .inl () = v162 ∧ Fr 166 [(0, .int .i64 x0), (1, .int .i64 x1), (2, .int .i64 x2), (3, .int .i64 x3), (15, .pointer (some ⟨r43_b2, 0, none⟩)), (16, .pointer none), (17, .int .i64 r156.2)] a ∧ SAT w0 ([imm I, pt r38_b2 #[.pointer (some ⟨r28_b2, 0, none⟩), .int .i64 r38_s1.boot_, .int .i64 r38_s1.n_] 72, pt r28_b2 #[.slice p143 ((⟨l142, l146, x149, x150, x151, (⟨x152, x153⟩ : disk_Fall), x154, x155⟩ : disk_Disk).sure_).length c144, .map (some b148), .bool ((⟨l142, l146, x149, x150, x151, (⟨x152, x153⟩ : disk_Fall), x154, x155⟩ : disk_Disk).off_), .bool ((⟨l142, l146, x149, x150, x151, (⟨x152, x153⟩ : disk_Fall), x154, x155⟩ : disk_Disk).armed_), .int .i64 ((⟨l142, l146, x149, x150, x151, (⟨x152, x153⟩ : disk_Fall), x154, x155⟩ : disk_Disk).left_), .int .u64 ((⟨l142, l146, x149, x150, x151, (⟨x152, x153⟩ : disk_Fall), x154, x155⟩ : disk_Disk).fall_.Keep), .int .i64 ((⟨l142, l146, x149, x150, x151, (⟨x152, x153⟩ : disk_Fall), x154, x155⟩ : disk_Disk).fall_.Tear), .int .i64 ((⟨l142, l146, x149, x150, x151, (⟨x152, x153⟩ : disk_Fall), x154, x155⟩ : disk_Disk).acts_), .int .i64 ((⟨l142, l146, x149, x150, x151, (⟨x152, x153⟩ : disk_Fall), x154, x155⟩ : disk_Disk).falls_)] 62, pt r43_b2 #[.pointer (some ⟨r43_b4, 0, none⟩), .int .i64 x130, .int .i64 x131, .int .i64 x132, .int .i64 x133, .slice p135 l134.length c136, .int .i64 x138, .bool x139] 26, pt r43_b4 #[.pointer (some ⟨r28_b2, 0, none⟩), .int .i64 x140, .int .i64 x141] 72, own e_disk_sector 65 p143 c144 ((⟨l142, l146, x149, x150, x151, (⟨x152, x153⟩ : disk_Fall), x154, x155⟩ : disk_Disk).sure_), mpo (kInt .i64) (fun x : disk_sector => Value.agg #[.string x.s_, .int .i64 x.at_]) b148 ((⟨l142, l146, x149, x150, x151, (⟨x152, x153⟩ : disk_Fall), x154, x155⟩ : disk_Disk).wait_), own eStr 9 p135 c136 l134] ++ F0) w) ?_ ?_
    · refine cw_seq ?_
      refine cw_region ?_
      refine ow_vals 6 (j := 6) [0, 1, 2, 3, 15, 16, 17, 71] [(0, .int .i64 x0), (1, .int .i64 x1), (2, .int .i64 x2), (3, .int .i64 x3), (15, .pointer (some ⟨r43_b2, 0, none⟩)), (16, .pointer none), (17, .int .i64 r156.2), (71, .bool (r160 != 1))] rfl (by kernel_rfl) ?_
      refine ow_end rfl ?_
      refine ew_then ?_
      rcases if_some hF with ⟨h163, hF⟩ | ⟨h163, hF⟩
      · refine cw_cond_t rfl rfl h163 ?_
        refine cw_seq ?_
        refine cw_region ?_
        refine ow_vals 1 (j := 1) [10] [(10, .bool false)] rfl (by kernel_rfl) ?_
        refine ow_end rfl ?_
        refine ew_then ?_
        refine cw_ret ?_
        refine ew_then_ret ?_
        have hR := Option.some.inj hF
        subst hR
        have hR := hK162
        try dsimp only [Thru] at hR
        subst hR
        exact fin1 (H1 := [imm I]) (fun w hs => sat_to [1, 1, 1, 1, 1, 1, 1, 0] 7 rfl hs) rfl (rr_tmp rfl) ⟨rfl, rfl⟩
      refine cw_cond_f rfl rfl h163 ?_
      refine cw_skip ?_
      have hR := Option.some.inj hF
      exact fun a w hf hs => ⟨hR, hf.keep [0, 1, 2, 3, 15, 16, 17], sat_to [0, 0, 0, 2, 2, 0, 0, 0] 0 rfl hs⟩
    rintro a w ⟨hv, hf, hs⟩
    subst hv
    replace hF := hK162
    clear hK162
    try dsimp only [Thru] at hF
    revert a w
    show CW _ _ _ 166 [(0, .int .i64 x0), (1, .int .i64 x1), (2, .int .i64 x2), (3, .int .i64 x3), (15, .pointer (some ⟨r43_b2, 0, none⟩)), (16, .pointer none), (17, .int .i64 r156.2)] (SAT w0 ([imm I, pt r38_b2 #[.pointer (some ⟨r28_b2, 0, none⟩), .int .i64 r38_s1.boot_, .int .i64 r38_s1.n_] 72, pt r28_b2 #[.slice p143 ((⟨l142, l146, x149, x150, x151, (⟨x152, x153⟩ : disk_Fall), x154, x155⟩ : disk_Disk).sure_).length c144, .map (some b148), .bool ((⟨l142, l146, x149, x150, x151, (⟨x152, x153⟩ : disk_Fall), x154, x155⟩ : disk_Disk).off_), .bool ((⟨l142, l146, x149, x150, x151, (⟨x152, x153⟩ : disk_Fall), x154, x155⟩ : disk_Disk).armed_), .int .i64 ((⟨l142, l146, x149, x150, x151, (⟨x152, x153⟩ : disk_Fall), x154, x155⟩ : disk_Disk).left_), .int .u64 ((⟨l142, l146, x149, x150, x151, (⟨x152, x153⟩ : disk_Fall), x154, x155⟩ : disk_Disk).fall_.Keep), .int .i64 ((⟨l142, l146, x149, x150, x151, (⟨x152, x153⟩ : disk_Fall), x154, x155⟩ : disk_Disk).fall_.Tear), .int .i64 ((⟨l142, l146, x149, x150, x151, (⟨x152, x153⟩ : disk_Fall), x154, x155⟩ : disk_Disk).acts_), .int .i64 ((⟨l142, l146, x149, x150, x151, (⟨x152, x153⟩ : disk_Fall), x154, x155⟩ : disk_Disk).falls_)] 62, pt r43_b2 #[.pointer (some ⟨r43_b4, 0, none⟩), .int .i64 x130, .int .i64 x131, .int .i64 x132, .int .i64 x133, .slice p135 l134.length c136, .int .i64 x138, .bool x139] 26, pt r43_b4 #[.pointer (some ⟨r28_b2, 0, none⟩), .int .i64 x140, .int .i64 x141] 72, own e_disk_sector 65 p143 c144 ((⟨l142, l146, x149, x150, x151, (⟨x152, x153⟩ : disk_Fall), x154, x155⟩ : disk_Disk).sure_), mpo (kInt .i64) (fun x : disk_sector => Value.agg #[.string x.s_, .int .i64 x.at_]) b148 ((⟨l142, l146, x149, x150, x151, (⟨x152, x153⟩ : disk_Fall), x154, x155⟩ : disk_Disk).wait_), own eStr 9 p135 c136 l134] ++ F0))
    unfold F.law12_JournalOpens.r17 at hF
    obtain ⟨v164, hF, hK164⟩ := thru_some hF
    refine cw_mid (fun a w => .inl () = v164 ∧ Fr 166 [(0, .int .i64 x0), (1, .int .i64 x1), (2, .int .i64 x2), (3, .int .i64 x3), (15, .pointer (some ⟨r43_b2, 0, none⟩)), (16, .pointer none), (17, .int .i64 r156.2)] a ∧ SAT w0 ([imm I, pt r38_b2 #[.pointer (some ⟨r28_b2, 0, none⟩), .int .i64 r38_s1.boot_, .int .i64 r38_s1.n_] 72, pt r28_b2 #[.slice p143 ((⟨l142, l146, x149, x150, x151, (⟨x152, x153⟩ : disk_Fall), x154, x155⟩ : disk_Disk).sure_).length c144, .map (some b148), .bool ((⟨l142, l146, x149, x150, x151, (⟨x152, x153⟩ : disk_Fall), x154, x155⟩ : disk_Disk).off_), .bool ((⟨l142, l146, x149, x150, x151, (⟨x152, x153⟩ : disk_Fall), x154, x155⟩ : disk_Disk).armed_), .int .i64 ((⟨l142, l146, x149, x150, x151, (⟨x152, x153⟩ : disk_Fall), x154, x155⟩ : disk_Disk).left_), .int .u64 ((⟨l142, l146, x149, x150, x151, (⟨x152, x153⟩ : disk_Fall), x154, x155⟩ : disk_Disk).fall_.Keep), .int .i64 ((⟨l142, l146, x149, x150, x151, (⟨x152, x153⟩ : disk_Fall), x154, x155⟩ : disk_Disk).fall_.Tear), .int .i64 ((⟨l142, l146, x149, x150, x151, (⟨x152, x153⟩ : disk_Fall), x154, x155⟩ : disk_Disk).acts_), .int .i64 ((⟨l142, l146, x149, x150, x151, (⟨x152, x153⟩ : disk_Fall), x154, x155⟩ : disk_Disk).falls_)] 62, pt r43_b2 #[.pointer (some ⟨r43_b4, 0, none⟩), .int .i64 x130, .int .i64 x131, .int .i64 x132, .int .i64 x133, .slice p135 l134.length c136, .int .i64 x138, .bool x139] 26, pt r43_b4 #[.pointer (some ⟨r28_b2, 0, none⟩), .int .i64 x140, .int .i64 x141] 72, own e_disk_sector 65 p143 c144 ((⟨l142, l146, x149, x150, x151, (⟨x152, x153⟩ : disk_Fall), x154, x155⟩ : disk_Disk).sure_), mpo (kInt .i64) (fun x : disk_sector => Value.agg #[.string x.s_, .int .i64 x.at_]) b148 ((⟨l142, l146, x149, x150, x151, (⟨x152, x153⟩ : disk_Fall), x154, x155⟩ : disk_Disk).wait_), own eStr 9 p135 c136 l134] ++ F0) w) ?_ ?_
    · obtain ⟨v165, hF, hK165⟩ := bind_some hF
      refine cw_mid (fun a w => ∃ (x169 : Bool), x169 = v165 ∧ Fr 166 [(0, .int .i64 x0), (1, .int .i64 x1), (2, .int .i64 x2), (3, .int .i64 x3), (15, .pointer (some ⟨r43_b2, 0, none⟩)), (16, .pointer none), (17, .int .i64 r156.2), (85, .bool x169)] a ∧ SAT w0 ([imm I, pt r38_b2 #[.pointer (some ⟨r28_b2, 0, none⟩), .int .i64 r38_s1.boot_, .int .i64 r38_s1.n_] 72, pt r28_b2 #[.slice p143 ((⟨l142, l146, x149, x150, x151, (⟨x152, x153⟩ : disk_Fall), x154, x155⟩ : disk_Disk).sure_).length c144, .map (some b148), .bool ((⟨l142, l146, x149, x150, x151, (⟨x152, x153⟩ : disk_Fall), x154, x155⟩ : disk_Disk).off_), .bool ((⟨l142, l146, x149, x150, x151, (⟨x152, x153⟩ : disk_Fall), x154, x155⟩ : disk_Disk).armed_), .int .i64 ((⟨l142, l146, x149, x150, x151, (⟨x152, x153⟩ : disk_Fall), x154, x155⟩ : disk_Disk).left_), .int .u64 ((⟨l142, l146, x149, x150, x151, (⟨x152, x153⟩ : disk_Fall), x154, x155⟩ : disk_Disk).fall_.Keep), .int .i64 ((⟨l142, l146, x149, x150, x151, (⟨x152, x153⟩ : disk_Fall), x154, x155⟩ : disk_Disk).fall_.Tear), .int .i64 ((⟨l142, l146, x149, x150, x151, (⟨x152, x153⟩ : disk_Fall), x154, x155⟩ : disk_Disk).acts_), .int .i64 ((⟨l142, l146, x149, x150, x151, (⟨x152, x153⟩ : disk_Fall), x154, x155⟩ : disk_Disk).falls_)] 62, pt r43_b2 #[.pointer (some ⟨r43_b4, 0, none⟩), .int .i64 x130, .int .i64 x131, .int .i64 x132, .int .i64 x133, .slice p135 l134.length c136, .int .i64 x138, .bool x139] 26, pt r43_b4 #[.pointer (some ⟨r28_b2, 0, none⟩), .int .i64 x140, .int .i64 x141] 72, own e_disk_sector 65 p143 c144 ((⟨l142, l146, x149, x150, x151, (⟨x152, x153⟩ : disk_Fall), x154, x155⟩ : disk_Disk).sure_), mpo (kInt .i64) (fun x : disk_sector => Value.agg #[.string x.s_, .int .i64 x.at_]) b148 ((⟨l142, l146, x149, x150, x151, (⟨x152, x153⟩ : disk_Fall), x154, x155⟩ : disk_Disk).wait_), own eStr 9 p135 c136 l134] ++ F0) w) ?_ ?_
      · refine cw_region ?_
        refine ow_vals 3 (j := 3) [0, 1, 2, 3, 15, 16, 17, 74] [(0, .int .i64 x0), (1, .int .i64 x1), (2, .int .i64 x2), (3, .int .i64 x3), (15, .pointer (some ⟨r43_b2, 0, none⟩)), (16, .pointer none), (17, .int .i64 r156.2), (74, .bool (decide (x1 < 0)))] rfl (by kernel_rfl) ?_
        rcases if_some hF with ⟨h166, hF⟩ | ⟨h166, hF⟩
        · refine ow_slots (L' := [(0, .int .i64 x0), (1, .int .i64 x1), (2, .int .i64 x2), (3, .int .i64 x3), (15, .pointer (some ⟨r43_b2, 0, none⟩)), (16, .pointer none), (17, .int .i64 r156.2), (74, .bool true)]) (by rw [h166]) ?_
          refine ow_vals 11 (j := 14) [0, 1, 2, 3, 15, 16, 17, 85] [(0, .int .i64 x0), (1, .int .i64 x1), (2, .int .i64 x2), (3, .int .i64 x3), (15, .pointer (some ⟨r43_b2, 0, none⟩)), (16, .pointer none), (17, .int .i64 r156.2), (85, .bool true)] rfl (by kernel_rfl) ?_
          refine ow_end rfl ?_
          have hR := Option.some.inj hF
          exact fun a w hf hs => ⟨true, hR, hf.keep [0, 1, 2, 3, 15, 16, 17, 85], sat_to [0, 0, 0, 0, 0, 0, 0, 0] 0 rfl hs⟩
        refine ow_slots (L' := [(0, .int .i64 x0), (1, .int .i64 x1), (2, .int .i64 x2), (3, .int .i64 x3), (15, .pointer (some ⟨r43_b2, 0, none⟩)), (16, .pointer none), (17, .int .i64 r156.2), (74, .bool false)]) (by rw [h166]) ?_
        refine ow_vals 4 (j := 7) [0, 1, 2, 3, 15, 16, 17, 78] [(0, .int .i64 x0), (1, .int .i64 x1), (2, .int .i64 x2), (3, .int .i64 x3), (15, .pointer (some ⟨r43_b2, 0, none⟩)), (16, .pointer none), (17, .int .i64 r156.2), (78, .bool (decide (x2 < 1)))] rfl (by kernel_rfl) ?_
        rcases if_some hF with ⟨h167, hF⟩ | ⟨h167, hF⟩
        · refine ow_slots (L' := [(0, .int .i64 x0), (1, .int .i64 x1), (2, .int .i64 x2), (3, .int .i64 x3), (15, .pointer (some ⟨r43_b2, 0, none⟩)), (16, .pointer none), (17, .int .i64 r156.2), (78, .bool true)]) (by rw [h167]) ?_
          refine ow_vals 7 (j := 14) [0, 1, 2, 3, 15, 16, 17, 85] [(0, .int .i64 x0), (1, .int .i64 x1), (2, .int .i64 x2), (3, .int .i64 x3), (15, .pointer (some ⟨r43_b2, 0, none⟩)), (16, .pointer none), (17, .int .i64 r156.2), (85, .bool true)] rfl (by kernel_rfl) ?_
          refine ow_end rfl ?_
          have hR := Option.some.inj hF
          exact fun a w hf hs => ⟨true, hR, hf.keep [0, 1, 2, 3, 15, 16, 17, 85], sat_to [0, 0, 0, 0, 0, 0, 0, 0] 0 rfl hs⟩
        refine ow_slots (L' := [(0, .int .i64 x0), (1, .int .i64 x1), (2, .int .i64 x2), (3, .int .i64 x3), (15, .pointer (some ⟨r43_b2, 0, none⟩)), (16, .pointer none), (17, .int .i64 r156.2), (78, .bool false)]) (by rw [h167]) ?_
        refine ow_vals 4 (j := 11) [0, 1, 2, 3, 15, 16, 17, 82] [(0, .int .i64 x0), (1, .int .i64 x1), (2, .int .i64 x2), (3, .int .i64 x3), (15, .pointer (some ⟨r43_b2, 0, none⟩)), (16, .pointer none), (17, .int .i64 r156.2), (82, .bool (decide (x3 < 1)))] rfl (by kernel_rfl) ?_
        rcases if_some hF with ⟨h168, hF⟩ | ⟨h168, hF⟩
        · refine ow_slots (L' := [(0, .int .i64 x0), (1, .int .i64 x1), (2, .int .i64 x2), (3, .int .i64 x3), (15, .pointer (some ⟨r43_b2, 0, none⟩)), (16, .pointer none), (17, .int .i64 r156.2), (82, .bool true)]) (by rw [h168]) ?_
          refine ow_vals 3 (j := 14) [0, 1, 2, 3, 15, 16, 17, 85] [(0, .int .i64 x0), (1, .int .i64 x1), (2, .int .i64 x2), (3, .int .i64 x3), (15, .pointer (some ⟨r43_b2, 0, none⟩)), (16, .pointer none), (17, .int .i64 r156.2), (85, .bool true)] rfl (by kernel_rfl) ?_
          refine ow_end rfl ?_
          have hR := Option.some.inj hF
          exact fun a w hf hs => ⟨true, hR, hf.keep [0, 1, 2, 3, 15, 16, 17, 85], sat_to [0, 0, 0, 0, 0, 0, 0, 0] 0 rfl hs⟩
        refine ow_slots (L' := [(0, .int .i64 x0), (1, .int .i64 x1), (2, .int .i64 x2), (3, .int .i64 x3), (15, .pointer (some ⟨r43_b2, 0, none⟩)), (16, .pointer none), (17, .int .i64 r156.2), (82, .bool false)]) (by rw [h168]) ?_
        refine ow_vals 3 (j := 14) [0, 1, 2, 3, 15, 16, 17, 85] [(0, .int .i64 x0), (1, .int .i64 x1), (2, .int .i64 x2), (3, .int .i64 x3), (15, .pointer (some ⟨r43_b2, 0, none⟩)), (16, .pointer none), (17, .int .i64 r156.2), (85, .bool (decide (x3 > 4294967295)))] rfl (by kernel_rfl) ?_
        refine ow_end rfl ?_
        have hR := Option.some.inj hF
        exact fun a w hf hs => ⟨decide (x3 > 4294967295), hR, hf.keep [0, 1, 2, 3, 15, 16, 17, 85], sat_to [0, 0, 0, 0, 0, 0, 0, 0] 0 rfl hs⟩
      rintro a w ⟨x169, hv, hf, hs⟩
      subst hv
      replace hF := hK165
      clear hK165
      try dsimp only at hF
      revert a w
      show CW _ _ _ 166 [(0, .int .i64 x0), (1, .int .i64 x1), (2, .int .i64 x2), (3, .int .i64 x3), (15, .pointer (some ⟨r43_b2, 0, none⟩)), (16, .pointer none), (17, .int .i64 r156.2), (85, .bool x169)] (SAT w0 ([imm I, pt r38_b2 #[.pointer (some ⟨r28_b2, 0, none⟩), .int .i64 r38_s1.boot_, .int .i64 r38_s1.n_] 72, pt r28_b2 #[.slice p143 ((⟨l142, l146, x149, x150, x151, (⟨x152, x153⟩ : disk_Fall), x154, x155⟩ : disk_Disk).sure_).length c144, .map (some b148), .bool ((⟨l142, l146, x149, x150, x151, (⟨x152, x153⟩ : disk_Fall), x154, x155⟩ : disk_Disk).off_), .bool ((⟨l142, l146, x149, x150, x151, (⟨x152, x153⟩ : disk_Fall), x154, x155⟩ : disk_Disk).armed_), .int .i64 ((⟨l142, l146, x149, x150, x151, (⟨x152, x153⟩ : disk_Fall), x154, x155⟩ : disk_Disk).left_), .int .u64 ((⟨l142, l146, x149, x150, x151, (⟨x152, x153⟩ : disk_Fall), x154, x155⟩ : disk_Disk).fall_.Keep), .int .i64 ((⟨l142, l146, x149, x150, x151, (⟨x152, x153⟩ : disk_Fall), x154, x155⟩ : disk_Disk).fall_.Tear), .int .i64 ((⟨l142, l146, x149, x150, x151, (⟨x152, x153⟩ : disk_Fall), x154, x155⟩ : disk_Disk).acts_), .int .i64 ((⟨l142, l146, x149, x150, x151, (⟨x152, x153⟩ : disk_Fall), x154, x155⟩ : disk_Disk).falls_)] 62, pt r43_b2 #[.pointer (some ⟨r43_b4, 0, none⟩), .int .i64 x130, .int .i64 x131, .int .i64 x132, .int .i64 x133, .slice p135 l134.length c136, .int .i64 x138, .bool x139] 26, pt r43_b4 #[.pointer (some ⟨r28_b2, 0, none⟩), .int .i64 x140, .int .i64 x141] 72, own e_disk_sector 65 p143 c144 ((⟨l142, l146, x149, x150, x151, (⟨x152, x153⟩ : disk_Fall), x154, x155⟩ : disk_Disk).sure_), mpo (kInt .i64) (fun x : disk_sector => Value.agg #[.string x.s_, .int .i64 x.at_]) b148 ((⟨l142, l146, x149, x150, x151, (⟨x152, x153⟩ : disk_Fall), x154, x155⟩ : disk_Disk).wait_), own eStr 9 p135 c136 l134] ++ F0))
      unfold F.law12_JournalOpens.r18 at hF
      rcases if_some hF with ⟨h170, hF⟩ | ⟨h170, hF⟩
      · refine cw_cond_t rfl rfl h170 ?_
        refine cw_seq ?_
        refine cw_region ?_
        refine ow_vals 7 (j := 7) [92] [(92, .bool (r156.2 == 1))] rfl (by kernel_rfl) ?_
        rcases if_some hF with ⟨h171, hF⟩ | ⟨h171, hF⟩
        · refine ow_slots (L' := [(92, .bool true)]) (by rw [h171]) ?_
          obtain ⟨r172, h173, hF⟩ := bind_some hF
          refine ow_pw rfl (pw_call (F := [pt r38_b2 #[.pointer (some ⟨r28_b2, 0, none⟩), .int .i64 r38_s1.boot_, .int .i64 r38_s1.n_] 72, pt r28_b2 #[.slice p143 ((⟨l142, l146, x149, x150, x151, (⟨x152, x153⟩ : disk_Fall), x154, x155⟩ : disk_Disk).sure_).length c144, .map (some b148), .bool ((⟨l142, l146, x149, x150, x151, (⟨x152, x153⟩ : disk_Fall), x154, x155⟩ : disk_Disk).off_), .bool ((⟨l142, l146, x149, x150, x151, (⟨x152, x153⟩ : disk_Fall), x154, x155⟩ : disk_Disk).armed_), .int .i64 ((⟨l142, l146, x149, x150, x151, (⟨x152, x153⟩ : disk_Fall), x154, x155⟩ : disk_Disk).left_), .int .u64 ((⟨l142, l146, x149, x150, x151, (⟨x152, x153⟩ : disk_Fall), x154, x155⟩ : disk_Disk).fall_.Keep), .int .i64 ((⟨l142, l146, x149, x150, x151, (⟨x152, x153⟩ : disk_Fall), x154, x155⟩ : disk_Disk).fall_.Tear), .int .i64 ((⟨l142, l146, x149, x150, x151, (⟨x152, x153⟩ : disk_Fall), x154, x155⟩ : disk_Disk).acts_), .int .i64 ((⟨l142, l146, x149, x150, x151, (⟨x152, x153⟩ : disk_Fall), x154, x155⟩ : disk_Disk).falls_)] 62, pt r43_b2 #[.pointer (some ⟨r43_b4, 0, none⟩), .int .i64 x130, .int .i64 x131, .int .i64 x132, .int .i64 x133, .slice p135 l134.length c136, .int .i64 x138, .bool x139] 26, pt r43_b4 #[.pointer (some ⟨r28_b2, 0, none⟩), .int .i64 x140, .int .i64 x141] 72, own e_disk_sector 65 p143 c144 ((⟨l142, l146, x149, x150, x151, (⟨x152, x153⟩ : disk_Fall), x154, x155⟩ : disk_Disk).sure_), mpo (kInt .i64) (fun x : disk_sector => Value.agg #[.string x.s_, .int .i64 x.at_]) b148 ((⟨l142, l146, x149, x150, x151, (⟨x152, x153⟩ : disk_Fall), x154, x155⟩ : disk_Disk).wait_), own eStr 9 p135 c136 l134] ++ F0) rfl rfl rfl rfl rfl rfl rfl (by kernel_rfl) (perm_of_pulls [0] rfl) (c_law12_awake _ r172 h173) ?_)
          rintro _ _ ⟨rfl, rfl⟩
          refine nw_H (H' := [imm I, pt r38_b2 #[.pointer (some ⟨r28_b2, 0, none⟩), .int .i64 r38_s1.boot_, .int .i64 r38_s1.n_] 72, pt r28_b2 #[.slice p143 ((⟨l142, l146, x149, x150, x151, (⟨x152, x153⟩ : disk_Fall), x154, x155⟩ : disk_Disk).sure_).length c144, .map (some b148), .bool ((⟨l142, l146, x149, x150, x151, (⟨x152, x153⟩ : disk_Fall), x154, x155⟩ : disk_Disk).off_), .bool ((⟨l142, l146, x149, x150, x151, (⟨x152, x153⟩ : disk_Fall), x154, x155⟩ : disk_Disk).armed_), .int .i64 ((⟨l142, l146, x149, x150, x151, (⟨x152, x153⟩ : disk_Fall), x154, x155⟩ : disk_Disk).left_), .int .u64 ((⟨l142, l146, x149, x150, x151, (⟨x152, x153⟩ : disk_Fall), x154, x155⟩ : disk_Disk).fall_.Keep), .int .i64 ((⟨l142, l146, x149, x150, x151, (⟨x152, x153⟩ : disk_Fall), x154, x155⟩ : disk_Disk).fall_.Tear), .int .i64 ((⟨l142, l146, x149, x150, x151, (⟨x152, x153⟩ : disk_Fall), x154, x155⟩ : disk_Disk).acts_), .int .i64 ((⟨l142, l146, x149, x150, x151, (⟨x152, x153⟩ : disk_Fall), x154, x155⟩ : disk_Disk).falls_)] 62, pt r43_b2 #[.pointer (some ⟨r43_b4, 0, none⟩), .int .i64 x130, .int .i64 x131, .int .i64 x132, .int .i64 x133, .slice p135 l134.length c136, .int .i64 x138, .bool x139] 26, pt r43_b4 #[.pointer (some ⟨r28_b2, 0, none⟩), .int .i64 x140, .int .i64 x141] 72, own e_disk_sector 65 p143 c144 ((⟨l142, l146, x149, x150, x151, (⟨x152, x153⟩ : disk_Fall), x154, x155⟩ : disk_Disk).sure_), mpo (kInt .i64) (fun x : disk_sector => Value.agg #[.string x.s_, .int .i64 x.at_]) b148 ((⟨l142, l146, x149, x150, x151, (⟨x152, x153⟩ : disk_Fall), x154, x155⟩ : disk_Disk).wait_), own eStr 9 p135 c136 l134] ++ F0) rfl (nw_ow ?_)
          refine ow_vals 2 (j := 10) [10] [(10, .bool r172)] rfl (by kernel_rfl) ?_
          refine ow_end rfl ?_
          refine ew_then ?_
          refine cw_ret ?_
          refine ew_then_ret ?_
          have hR := Option.some.inj hF
          subst hR
          have hR := hK164
          try dsimp only [Thru] at hR
          subst hR
          exact fin1 (H1 := [imm I]) (fun w hs => sat_to [1, 1, 1, 1, 1, 1, 1, 0] 7 rfl hs) rfl (rr_tmp rfl) ⟨rfl, rfl⟩
        refine ow_slots (L' := [(92, .bool false)]) (by rw [h171]) ?_
        refine ow_vals 3 (j := 10) [10] [(10, .bool false)] rfl (by kernel_rfl) ?_
        refine ow_end rfl ?_
        refine ew_then ?_
        refine cw_ret ?_
        refine ew_then_ret ?_
        have hR := Option.some.inj hF
        subst hR
        have hR := hK164
        try dsimp only [Thru] at hR
        subst hR
        exact fin1 (H1 := [imm I]) (fun w hs => sat_to [1, 1, 1, 1, 1, 1, 1, 0] 7 rfl hs) rfl (rr_tmp rfl) ⟨rfl, rfl⟩
      refine cw_cond_f rfl rfl h170 ?_
      refine cw_skip ?_
      have hR := Option.some.inj hF
      exact fun a w hf hs => ⟨hR, hf.keep [0, 1, 2, 3, 15, 16, 17], sat_to [0, 0, 0, 0, 0, 0, 0, 0] 0 rfl hs⟩
    rintro a w ⟨hv, hf, hs⟩
    subst hv
    replace hF := hK164
    clear hK164
    try dsimp only [Thru] at hF
    revert a w
    show CW _ _ _ 166 [(0, .int .i64 x0), (1, .int .i64 x1), (2, .int .i64 x2), (3, .int .i64 x3), (15, .pointer (some ⟨r43_b2, 0, none⟩)), (16, .pointer none), (17, .int .i64 r156.2)] (SAT w0 ([imm I, pt r38_b2 #[.pointer (some ⟨r28_b2, 0, none⟩), .int .i64 r38_s1.boot_, .int .i64 r38_s1.n_] 72, pt r28_b2 #[.slice p143 ((⟨l142, l146, x149, x150, x151, (⟨x152, x153⟩ : disk_Fall), x154, x155⟩ : disk_Disk).sure_).length c144, .map (some b148), .bool ((⟨l142, l146, x149, x150, x151, (⟨x152, x153⟩ : disk_Fall), x154, x155⟩ : disk_Disk).off_), .bool ((⟨l142, l146, x149, x150, x151, (⟨x152, x153⟩ : disk_Fall), x154, x155⟩ : disk_Disk).armed_), .int .i64 ((⟨l142, l146, x149, x150, x151, (⟨x152, x153⟩ : disk_Fall), x154, x155⟩ : disk_Disk).left_), .int .u64 ((⟨l142, l146, x149, x150, x151, (⟨x152, x153⟩ : disk_Fall), x154, x155⟩ : disk_Disk).fall_.Keep), .int .i64 ((⟨l142, l146, x149, x150, x151, (⟨x152, x153⟩ : disk_Fall), x154, x155⟩ : disk_Disk).fall_.Tear), .int .i64 ((⟨l142, l146, x149, x150, x151, (⟨x152, x153⟩ : disk_Fall), x154, x155⟩ : disk_Disk).acts_), .int .i64 ((⟨l142, l146, x149, x150, x151, (⟨x152, x153⟩ : disk_Fall), x154, x155⟩ : disk_Disk).falls_)] 62, pt r43_b2 #[.pointer (some ⟨r43_b4, 0, none⟩), .int .i64 x130, .int .i64 x131, .int .i64 x132, .int .i64 x133, .slice p135 l134.length c136, .int .i64 x138, .bool x139] 26, pt r43_b4 #[.pointer (some ⟨r28_b2, 0, none⟩), .int .i64 x140, .int .i64 x141] 72, own e_disk_sector 65 p143 c144 ((⟨l142, l146, x149, x150, x151, (⟨x152, x153⟩ : disk_Fall), x154, x155⟩ : disk_Disk).sure_), mpo (kInt .i64) (fun x : disk_sector => Value.agg #[.string x.s_, .int .i64 x.at_]) b148 ((⟨l142, l146, x149, x150, x151, (⟨x152, x153⟩ : disk_Fall), x154, x155⟩ : disk_Disk).wait_), own eStr 9 p135 c136 l134] ++ F0))
    unfold F.law12_JournalOpens.r19 at hF
    obtain ⟨v174, hF, hK174⟩ := thru_some hF
    refine cw_mid (fun a w => .inl () = v174 ∧ Fr 166 [(1, .int .i64 x1), (2, .int .i64 x2), (3, .int .i64 x3), (15, .pointer (some ⟨r43_b2, 0, none⟩)), (16, .pointer none), (17, .int .i64 r156.2)] a ∧ SAT w0 ([imm I, pt r38_b2 #[.pointer (some ⟨r28_b2, 0, none⟩), .int .i64 r38_s1.boot_, .int .i64 r38_s1.n_] 72, pt r28_b2 #[.slice p143 ((⟨l142, l146, x149, x150, x151, (⟨x152, x153⟩ : disk_Fall), x154, x155⟩ : disk_Disk).sure_).length c144, .map (some b148), .bool ((⟨l142, l146, x149, x150, x151, (⟨x152, x153⟩ : disk_Fall), x154, x155⟩ : disk_Disk).off_), .bool ((⟨l142, l146, x149, x150, x151, (⟨x152, x153⟩ : disk_Fall), x154, x155⟩ : disk_Disk).armed_), .int .i64 ((⟨l142, l146, x149, x150, x151, (⟨x152, x153⟩ : disk_Fall), x154, x155⟩ : disk_Disk).left_), .int .u64 ((⟨l142, l146, x149, x150, x151, (⟨x152, x153⟩ : disk_Fall), x154, x155⟩ : disk_Disk).fall_.Keep), .int .i64 ((⟨l142, l146, x149, x150, x151, (⟨x152, x153⟩ : disk_Fall), x154, x155⟩ : disk_Disk).fall_.Tear), .int .i64 ((⟨l142, l146, x149, x150, x151, (⟨x152, x153⟩ : disk_Fall), x154, x155⟩ : disk_Disk).acts_), .int .i64 ((⟨l142, l146, x149, x150, x151, (⟨x152, x153⟩ : disk_Fall), x154, x155⟩ : disk_Disk).falls_)] 62, pt r43_b2 #[.pointer (some ⟨r43_b4, 0, none⟩), .int .i64 x130, .int .i64 x131, .int .i64 x132, .int .i64 x133, .slice p135 l134.length c136, .int .i64 x138, .bool x139] 26, pt r43_b4 #[.pointer (some ⟨r28_b2, 0, none⟩), .int .i64 x140, .int .i64 x141] 72, own e_disk_sector 65 p143 c144 ((⟨l142, l146, x149, x150, x151, (⟨x152, x153⟩ : disk_Fall), x154, x155⟩ : disk_Disk).sure_), mpo (kInt .i64) (fun x : disk_sector => Value.agg #[.string x.s_, .int .i64 x.at_]) b148 ((⟨l142, l146, x149, x150, x151, (⟨x152, x153⟩ : disk_Fall), x154, x155⟩ : disk_Disk).wait_), own eStr 9 p135 c136 l134] ++ F0) w) ?_ ?_
    · obtain ⟨v175, hF, hK175⟩ := bind_some hF
      refine cw_mid (fun a w => ∃ (x177 : Bool), x177 = v175 ∧ Fr 166 [(1, .int .i64 x1), (2, .int .i64 x2), (3, .int .i64 x3), (15, .pointer (some ⟨r43_b2, 0, none⟩)), (16, .pointer none), (17, .int .i64 r156.2), (104, .bool x177)] a ∧ SAT w0 ([imm I, pt r38_b2 #[.pointer (some ⟨r28_b2, 0, none⟩), .int .i64 r38_s1.boot_, .int .i64 r38_s1.n_] 72, pt r28_b2 #[.slice p143 ((⟨l142, l146, x149, x150, x151, (⟨x152, x153⟩ : disk_Fall), x154, x155⟩ : disk_Disk).sure_).length c144, .map (some b148), .bool ((⟨l142, l146, x149, x150, x151, (⟨x152, x153⟩ : disk_Fall), x154, x155⟩ : disk_Disk).off_), .bool ((⟨l142, l146, x149, x150, x151, (⟨x152, x153⟩ : disk_Fall), x154, x155⟩ : disk_Disk).armed_), .int .i64 ((⟨l142, l146, x149, x150, x151, (⟨x152, x153⟩ : disk_Fall), x154, x155⟩ : disk_Disk).left_), .int .u64 ((⟨l142, l146, x149, x150, x151, (⟨x152, x153⟩ : disk_Fall), x154, x155⟩ : disk_Disk).fall_.Keep), .int .i64 ((⟨l142, l146, x149, x150, x151, (⟨x152, x153⟩ : disk_Fall), x154, x155⟩ : disk_Disk).fall_.Tear), .int .i64 ((⟨l142, l146, x149, x150, x151, (⟨x152, x153⟩ : disk_Fall), x154, x155⟩ : disk_Disk).acts_), .int .i64 ((⟨l142, l146, x149, x150, x151, (⟨x152, x153⟩ : disk_Fall), x154, x155⟩ : disk_Disk).falls_)] 62, pt r43_b2 #[.pointer (some ⟨r43_b4, 0, none⟩), .int .i64 x130, .int .i64 x131, .int .i64 x132, .int .i64 x133, .slice p135 l134.length c136, .int .i64 x138, .bool x139] 26, pt r43_b4 #[.pointer (some ⟨r28_b2, 0, none⟩), .int .i64 x140, .int .i64 x141] 72, own e_disk_sector 65 p143 c144 ((⟨l142, l146, x149, x150, x151, (⟨x152, x153⟩ : disk_Fall), x154, x155⟩ : disk_Disk).sure_), mpo (kInt .i64) (fun x : disk_sector => Value.agg #[.string x.s_, .int .i64 x.at_]) b148 ((⟨l142, l146, x149, x150, x151, (⟨x152, x153⟩ : disk_Fall), x154, x155⟩ : disk_Disk).wait_), own eStr 9 p135 c136 l134] ++ F0) w) ?_ ?_
      · refine cw_region ?_
        refine ow_vals 4 (j := 4) [0, 1, 2, 3, 15, 16, 17, 98] [(0, .int .i64 x0), (1, .int .i64 x1), (2, .int .i64 x2), (3, .int .i64 x3), (15, .pointer (some ⟨r43_b2, 0, none⟩)), (16, .pointer none), (17, .int .i64 r156.2), (98, .bool (decide (x1 > x0)))] rfl (by kernel_rfl) ?_
        rcases if_some hF with ⟨h176, hF⟩ | ⟨h176, hF⟩
        · refine ow_slots (L' := [(0, .int .i64 x0), (1, .int .i64 x1), (2, .int .i64 x2), (3, .int .i64 x3), (15, .pointer (some ⟨r43_b2, 0, none⟩)), (16, .pointer none), (17, .int .i64 r156.2), (98, .bool true)]) (by rw [h176]) ?_
          refine ow_vals 6 (j := 10) [1, 2, 3, 15, 16, 17, 104] [(1, .int .i64 x1), (2, .int .i64 x2), (3, .int .i64 x3), (15, .pointer (some ⟨r43_b2, 0, none⟩)), (16, .pointer none), (17, .int .i64 r156.2), (104, .bool true)] rfl (by kernel_rfl) ?_
          refine ow_end rfl ?_
          have hR := Option.some.inj hF
          exact fun a w hf hs => ⟨true, hR, hf.keep [1, 2, 3, 15, 16, 17, 104], sat_to [0, 0, 0, 0, 0, 0, 0, 0] 0 rfl hs⟩
        refine ow_slots (L' := [(0, .int .i64 x0), (1, .int .i64 x1), (2, .int .i64 x2), (3, .int .i64 x3), (15, .pointer (some ⟨r43_b2, 0, none⟩)), (16, .pointer none), (17, .int .i64 r156.2), (98, .bool false)]) (by rw [h176]) ?_
        refine ow_vals 6 (j := 10) [1, 2, 3, 15, 16, 17, 104] [(1, .int .i64 x1), (2, .int .i64 x2), (3, .int .i64 x3), (15, .pointer (some ⟨r43_b2, 0, none⟩)), (16, .pointer none), (17, .int .i64 r156.2), (104, .bool (decide (x2 > (IntKind.i64.wrap (x0 - x1)))))] rfl (by kernel_rfl) ?_
        refine ow_end rfl ?_
        have hR := Option.some.inj hF
        exact fun a w hf hs => ⟨decide (x2 > (IntKind.i64.wrap (x0 - x1))), hR, hf.keep [1, 2, 3, 15, 16, 17, 104], sat_to [0, 0, 0, 0, 0, 0, 0, 0] 0 rfl hs⟩
      rintro a w ⟨x177, hv, hf, hs⟩
      subst hv
      replace hF := hK175
      clear hK175
      try dsimp only at hF
      revert a w
      show CW _ _ _ 166 [(1, .int .i64 x1), (2, .int .i64 x2), (3, .int .i64 x3), (15, .pointer (some ⟨r43_b2, 0, none⟩)), (16, .pointer none), (17, .int .i64 r156.2), (104, .bool x177)] (SAT w0 ([imm I, pt r38_b2 #[.pointer (some ⟨r28_b2, 0, none⟩), .int .i64 r38_s1.boot_, .int .i64 r38_s1.n_] 72, pt r28_b2 #[.slice p143 ((⟨l142, l146, x149, x150, x151, (⟨x152, x153⟩ : disk_Fall), x154, x155⟩ : disk_Disk).sure_).length c144, .map (some b148), .bool ((⟨l142, l146, x149, x150, x151, (⟨x152, x153⟩ : disk_Fall), x154, x155⟩ : disk_Disk).off_), .bool ((⟨l142, l146, x149, x150, x151, (⟨x152, x153⟩ : disk_Fall), x154, x155⟩ : disk_Disk).armed_), .int .i64 ((⟨l142, l146, x149, x150, x151, (⟨x152, x153⟩ : disk_Fall), x154, x155⟩ : disk_Disk).left_), .int .u64 ((⟨l142, l146, x149, x150, x151, (⟨x152, x153⟩ : disk_Fall), x154, x155⟩ : disk_Disk).fall_.Keep), .int .i64 ((⟨l142, l146, x149, x150, x151, (⟨x152, x153⟩ : disk_Fall), x154, x155⟩ : disk_Disk).fall_.Tear), .int .i64 ((⟨l142, l146, x149, x150, x151, (⟨x152, x153⟩ : disk_Fall), x154, x155⟩ : disk_Disk).acts_), .int .i64 ((⟨l142, l146, x149, x150, x151, (⟨x152, x153⟩ : disk_Fall), x154, x155⟩ : disk_Disk).falls_)] 62, pt r43_b2 #[.pointer (some ⟨r43_b4, 0, none⟩), .int .i64 x130, .int .i64 x131, .int .i64 x132, .int .i64 x133, .slice p135 l134.length c136, .int .i64 x138, .bool x139] 26, pt r43_b4 #[.pointer (some ⟨r28_b2, 0, none⟩), .int .i64 x140, .int .i64 x141] 72, own e_disk_sector 65 p143 c144 ((⟨l142, l146, x149, x150, x151, (⟨x152, x153⟩ : disk_Fall), x154, x155⟩ : disk_Disk).sure_), mpo (kInt .i64) (fun x : disk_sector => Value.agg #[.string x.s_, .int .i64 x.at_]) b148 ((⟨l142, l146, x149, x150, x151, (⟨x152, x153⟩ : disk_Fall), x154, x155⟩ : disk_Disk).wait_), own eStr 9 p135 c136 l134] ++ F0))
      unfold F.law12_JournalOpens.r20 at hF
      rcases if_some hF with ⟨h178, hF⟩ | ⟨h178, hF⟩
      · refine cw_cond_t rfl rfl h178 ?_
        refine cw_seq ?_
        refine cw_region ?_
        refine ow_vals 7 (j := 7) [111] [(111, .bool (r156.2 == 5))] rfl (by kernel_rfl) ?_
        rcases if_some hF with ⟨h179, hF⟩ | ⟨h179, hF⟩
        · refine ow_slots (L' := [(111, .bool true)]) (by rw [h179]) ?_
          obtain ⟨r180, h181, hF⟩ := bind_some hF
          refine ow_pw rfl (pw_call (F := [pt r38_b2 #[.pointer (some ⟨r28_b2, 0, none⟩), .int .i64 r38_s1.boot_, .int .i64 r38_s1.n_] 72, pt r28_b2 #[.slice p143 ((⟨l142, l146, x149, x150, x151, (⟨x152, x153⟩ : disk_Fall), x154, x155⟩ : disk_Disk).sure_).length c144, .map (some b148), .bool ((⟨l142, l146, x149, x150, x151, (⟨x152, x153⟩ : disk_Fall), x154, x155⟩ : disk_Disk).off_), .bool ((⟨l142, l146, x149, x150, x151, (⟨x152, x153⟩ : disk_Fall), x154, x155⟩ : disk_Disk).armed_), .int .i64 ((⟨l142, l146, x149, x150, x151, (⟨x152, x153⟩ : disk_Fall), x154, x155⟩ : disk_Disk).left_), .int .u64 ((⟨l142, l146, x149, x150, x151, (⟨x152, x153⟩ : disk_Fall), x154, x155⟩ : disk_Disk).fall_.Keep), .int .i64 ((⟨l142, l146, x149, x150, x151, (⟨x152, x153⟩ : disk_Fall), x154, x155⟩ : disk_Disk).fall_.Tear), .int .i64 ((⟨l142, l146, x149, x150, x151, (⟨x152, x153⟩ : disk_Fall), x154, x155⟩ : disk_Disk).acts_), .int .i64 ((⟨l142, l146, x149, x150, x151, (⟨x152, x153⟩ : disk_Fall), x154, x155⟩ : disk_Disk).falls_)] 62, pt r43_b2 #[.pointer (some ⟨r43_b4, 0, none⟩), .int .i64 x130, .int .i64 x131, .int .i64 x132, .int .i64 x133, .slice p135 l134.length c136, .int .i64 x138, .bool x139] 26, pt r43_b4 #[.pointer (some ⟨r28_b2, 0, none⟩), .int .i64 x140, .int .i64 x141] 72, own e_disk_sector 65 p143 c144 ((⟨l142, l146, x149, x150, x151, (⟨x152, x153⟩ : disk_Fall), x154, x155⟩ : disk_Disk).sure_), mpo (kInt .i64) (fun x : disk_sector => Value.agg #[.string x.s_, .int .i64 x.at_]) b148 ((⟨l142, l146, x149, x150, x151, (⟨x152, x153⟩ : disk_Fall), x154, x155⟩ : disk_Disk).wait_), own eStr 9 p135 c136 l134] ++ F0) rfl rfl rfl rfl rfl rfl rfl (by kernel_rfl) (perm_of_pulls [0] rfl) (c_law12_awake _ r180 h181) ?_)
          rintro _ _ ⟨rfl, rfl⟩
          refine nw_H (H' := [imm I, pt r38_b2 #[.pointer (some ⟨r28_b2, 0, none⟩), .int .i64 r38_s1.boot_, .int .i64 r38_s1.n_] 72, pt r28_b2 #[.slice p143 ((⟨l142, l146, x149, x150, x151, (⟨x152, x153⟩ : disk_Fall), x154, x155⟩ : disk_Disk).sure_).length c144, .map (some b148), .bool ((⟨l142, l146, x149, x150, x151, (⟨x152, x153⟩ : disk_Fall), x154, x155⟩ : disk_Disk).off_), .bool ((⟨l142, l146, x149, x150, x151, (⟨x152, x153⟩ : disk_Fall), x154, x155⟩ : disk_Disk).armed_), .int .i64 ((⟨l142, l146, x149, x150, x151, (⟨x152, x153⟩ : disk_Fall), x154, x155⟩ : disk_Disk).left_), .int .u64 ((⟨l142, l146, x149, x150, x151, (⟨x152, x153⟩ : disk_Fall), x154, x155⟩ : disk_Disk).fall_.Keep), .int .i64 ((⟨l142, l146, x149, x150, x151, (⟨x152, x153⟩ : disk_Fall), x154, x155⟩ : disk_Disk).fall_.Tear), .int .i64 ((⟨l142, l146, x149, x150, x151, (⟨x152, x153⟩ : disk_Fall), x154, x155⟩ : disk_Disk).acts_), .int .i64 ((⟨l142, l146, x149, x150, x151, (⟨x152, x153⟩ : disk_Fall), x154, x155⟩ : disk_Disk).falls_)] 62, pt r43_b2 #[.pointer (some ⟨r43_b4, 0, none⟩), .int .i64 x130, .int .i64 x131, .int .i64 x132, .int .i64 x133, .slice p135 l134.length c136, .int .i64 x138, .bool x139] 26, pt r43_b4 #[.pointer (some ⟨r28_b2, 0, none⟩), .int .i64 x140, .int .i64 x141] 72, own e_disk_sector 65 p143 c144 ((⟨l142, l146, x149, x150, x151, (⟨x152, x153⟩ : disk_Fall), x154, x155⟩ : disk_Disk).sure_), mpo (kInt .i64) (fun x : disk_sector => Value.agg #[.string x.s_, .int .i64 x.at_]) b148 ((⟨l142, l146, x149, x150, x151, (⟨x152, x153⟩ : disk_Fall), x154, x155⟩ : disk_Disk).wait_), own eStr 9 p135 c136 l134] ++ F0) rfl (nw_ow ?_)
          refine ow_vals 2 (j := 10) [10] [(10, .bool r180)] rfl (by kernel_rfl) ?_
          refine ow_end rfl ?_
          refine ew_then ?_
          refine cw_ret ?_
          refine ew_then_ret ?_
          have hR := Option.some.inj hF
          subst hR
          have hR := hK174
          try dsimp only [Thru] at hR
          subst hR
          exact fin1 (H1 := [imm I]) (fun w hs => sat_to [1, 1, 1, 1, 1, 1, 1, 0] 7 rfl hs) rfl (rr_tmp rfl) ⟨rfl, rfl⟩
        refine ow_slots (L' := [(111, .bool false)]) (by rw [h179]) ?_
        refine ow_vals 3 (j := 10) [10] [(10, .bool false)] rfl (by kernel_rfl) ?_
        refine ow_end rfl ?_
        refine ew_then ?_
        refine cw_ret ?_
        refine ew_then_ret ?_
        have hR := Option.some.inj hF
        subst hR
        have hR := hK174
        try dsimp only [Thru] at hR
        subst hR
        exact fin1 (H1 := [imm I]) (fun w hs => sat_to [1, 1, 1, 1, 1, 1, 1, 0] 7 rfl hs) rfl (rr_tmp rfl) ⟨rfl, rfl⟩
      refine cw_cond_f rfl rfl h178 ?_
      refine cw_skip ?_
      have hR := Option.some.inj hF
      exact fun a w hf hs => ⟨hR, hf.keep [1, 2, 3, 15, 16, 17], sat_to [0, 0, 0, 0, 0, 0, 0, 0] 0 rfl hs⟩
    rintro a w ⟨hv, hf, hs⟩
    subst hv
    replace hF := hK174
    clear hK174
    try dsimp only [Thru] at hF
    revert a w
    show CW _ _ _ 166 [(1, .int .i64 x1), (2, .int .i64 x2), (3, .int .i64 x3), (15, .pointer (some ⟨r43_b2, 0, none⟩)), (16, .pointer none), (17, .int .i64 r156.2)] (SAT w0 ([imm I, pt r38_b2 #[.pointer (some ⟨r28_b2, 0, none⟩), .int .i64 r38_s1.boot_, .int .i64 r38_s1.n_] 72, pt r28_b2 #[.slice p143 ((⟨l142, l146, x149, x150, x151, (⟨x152, x153⟩ : disk_Fall), x154, x155⟩ : disk_Disk).sure_).length c144, .map (some b148), .bool ((⟨l142, l146, x149, x150, x151, (⟨x152, x153⟩ : disk_Fall), x154, x155⟩ : disk_Disk).off_), .bool ((⟨l142, l146, x149, x150, x151, (⟨x152, x153⟩ : disk_Fall), x154, x155⟩ : disk_Disk).armed_), .int .i64 ((⟨l142, l146, x149, x150, x151, (⟨x152, x153⟩ : disk_Fall), x154, x155⟩ : disk_Disk).left_), .int .u64 ((⟨l142, l146, x149, x150, x151, (⟨x152, x153⟩ : disk_Fall), x154, x155⟩ : disk_Disk).fall_.Keep), .int .i64 ((⟨l142, l146, x149, x150, x151, (⟨x152, x153⟩ : disk_Fall), x154, x155⟩ : disk_Disk).fall_.Tear), .int .i64 ((⟨l142, l146, x149, x150, x151, (⟨x152, x153⟩ : disk_Fall), x154, x155⟩ : disk_Disk).acts_), .int .i64 ((⟨l142, l146, x149, x150, x151, (⟨x152, x153⟩ : disk_Fall), x154, x155⟩ : disk_Disk).falls_)] 62, pt r43_b2 #[.pointer (some ⟨r43_b4, 0, none⟩), .int .i64 x130, .int .i64 x131, .int .i64 x132, .int .i64 x133, .slice p135 l134.length c136, .int .i64 x138, .bool x139] 26, pt r43_b4 #[.pointer (some ⟨r28_b2, 0, none⟩), .int .i64 x140, .int .i64 x141] 72, own e_disk_sector 65 p143 c144 ((⟨l142, l146, x149, x150, x151, (⟨x152, x153⟩ : disk_Fall), x154, x155⟩ : disk_Disk).sure_), mpo (kInt .i64) (fun x : disk_sector => Value.agg #[.string x.s_, .int .i64 x.at_]) b148 ((⟨l142, l146, x149, x150, x151, (⟨x152, x153⟩ : disk_Fall), x154, x155⟩ : disk_Disk).wait_), own eStr 9 p135 c136 l134] ++ F0))
    unfold F.law12_JournalOpens.r21 at hF
    obtain ⟨v182, hF, hK182⟩ := bind_some hF
    refine cw_mid (fun a w => ∃ (x190 : Bool), x190 = v182 ∧ Fr 166 [(2, .int .i64 x2), (16, .pointer none), (17, .int .i64 r156.2), (20, .bool x190)] a ∧ SAT w0 ([imm I, pt r43_b2 #[.pointer (some ⟨r43_b4, 0, none⟩), .int .i64 ((⟨x130, x131, x132, x133, l134, x138, x139⟩ : journal_Journal).base_), .int .i64 ((⟨x130, x131, x132, x133, l134, x138, x139⟩ : journal_Journal).size_), .int .i64 ((⟨x130, x131, x132, x133, l134, x138, x139⟩ : journal_Journal).next_), .int .i64 ((⟨x130, x131, x132, x133, l134, x138, x139⟩ : journal_Journal).last_), .slice p135 ((⟨x130, x131, x132, x133, l134, x138, x139⟩ : journal_Journal).list_).length c136, .int .i64 ((⟨x130, x131, x132, x133, l134, x138, x139⟩ : journal_Journal).sure_), .bool ((⟨x130, x131, x132, x133, l134, x138, x139⟩ : journal_Journal).dead_)] 26, pt r43_b4 #[.pointer (some ⟨r28_b2, 0, none⟩), .int .i64 ((⟨x140, x141⟩ : guard_Guard).boot_), .int .i64 ((⟨x140, x141⟩ : guard_Guard).n_)] 72, pt r28_b2 #[.slice p143 ((⟨l142, l146, x149, x150, x151, (⟨x152, x153⟩ : disk_Fall), x154, x155⟩ : disk_Disk).sure_).length c144, .map (some b148), .bool ((⟨l142, l146, x149, x150, x151, (⟨x152, x153⟩ : disk_Fall), x154, x155⟩ : disk_Disk).off_), .bool ((⟨l142, l146, x149, x150, x151, (⟨x152, x153⟩ : disk_Fall), x154, x155⟩ : disk_Disk).armed_), .int .i64 ((⟨l142, l146, x149, x150, x151, (⟨x152, x153⟩ : disk_Fall), x154, x155⟩ : disk_Disk).left_), .int .u64 ((⟨l142, l146, x149, x150, x151, (⟨x152, x153⟩ : disk_Fall), x154, x155⟩ : disk_Disk).fall_.Keep), .int .i64 ((⟨l142, l146, x149, x150, x151, (⟨x152, x153⟩ : disk_Fall), x154, x155⟩ : disk_Disk).fall_.Tear), .int .i64 ((⟨l142, l146, x149, x150, x151, (⟨x152, x153⟩ : disk_Fall), x154, x155⟩ : disk_Disk).acts_), .int .i64 ((⟨l142, l146, x149, x150, x151, (⟨x152, x153⟩ : disk_Fall), x154, x155⟩ : disk_Disk).falls_)] 62, pt r38_b2 #[.pointer (some ⟨r28_b2, 0, none⟩), .int .i64 r38_s1.boot_, .int .i64 r38_s1.n_] 72, own eStr 9 p135 c136 ((⟨x130, x131, x132, x133, l134, x138, x139⟩ : journal_Journal).list_), own e_disk_sector 65 p143 c144 ((⟨l142, l146, x149, x150, x151, (⟨x152, x153⟩ : disk_Fall), x154, x155⟩ : disk_Disk).sure_), mpo (kInt .i64) (fun x : disk_sector => Value.agg #[.string x.s_, .int .i64 x.at_]) b148 ((⟨l142, l146, x149, x150, x151, (⟨x152, x153⟩ : disk_Fall), x154, x155⟩ : disk_Disk).wait_)] ++ F0) w) ?_ ?_
    · refine cw_region ?_
      refine ow_vals 4 (j := 4) [1, 2, 3, 15, 16, 17, 116, 117] [(1, .int .i64 x1), (2, .int .i64 x2), (3, .int .i64 x3), (15, .pointer (some ⟨r43_b2, 0, none⟩)), (16, .pointer none), (17, .int .i64 r156.2), (116, .bool true), (117, .pointer (some ⟨r43_b2, 0, none⟩))] rfl (by kernel_rfl) ?_
      obtain ⟨r183, h184, hF⟩ := bind_some hF
      refine ow_pw rfl (pw_call (F := [pt r38_b2 #[.pointer (some ⟨r28_b2, 0, none⟩), .int .i64 r38_s1.boot_, .int .i64 r38_s1.n_] 72] ++ F0) rfl rfl rfl rfl rfl rfl rfl (by kernel_rfl) (perm_of_pulls [0, 2, 2, 1, 3, 1, 1] rfl) (c_journal_Journal_Used _ (⟨x130, x131, x132, x133, l134, x138, x139⟩ : journal_Journal) (⟨x140, x141⟩ : guard_Guard) (⟨l142, l146, x149, x150, x151, (⟨x152, x153⟩ : disk_Fall), x154, x155⟩ : disk_Disk) p135 c136 r43_b2 r43_b4 p143 c144 b148 r28_b2 r183 h184) ?_)
      rintro _ _ ⟨rfl, rfl⟩
      refine nw_H (H' := [imm I, pt r43_b2 #[.pointer (some ⟨r43_b4, 0, none⟩), .int .i64 ((⟨x130, x131, x132, x133, l134, x138, x139⟩ : journal_Journal).base_), .int .i64 ((⟨x130, x131, x132, x133, l134, x138, x139⟩ : journal_Journal).size_), .int .i64 ((⟨x130, x131, x132, x133, l134, x138, x139⟩ : journal_Journal).next_), .int .i64 ((⟨x130, x131, x132, x133, l134, x138, x139⟩ : journal_Journal).last_), .slice p135 ((⟨x130, x131, x132, x133, l134, x138, x139⟩ : journal_Journal).list_).length c136, .int .i64 ((⟨x130, x131, x132, x133, l134, x138, x139⟩ : journal_Journal).sure_), .bool ((⟨x130, x131, x132, x133, l134, x138, x139⟩ : journal_Journal).dead_)] 26, pt r43_b4 #[.pointer (some ⟨r28_b2, 0, none⟩), .int .i64 ((⟨x140, x141⟩ : guard_Guard).boot_), .int .i64 ((⟨x140, x141⟩ : guard_Guard).n_)] 72, pt r28_b2 #[.slice p143 ((⟨l142, l146, x149, x150, x151, (⟨x152, x153⟩ : disk_Fall), x154, x155⟩ : disk_Disk).sure_).length c144, .map (some b148), .bool ((⟨l142, l146, x149, x150, x151, (⟨x152, x153⟩ : disk_Fall), x154, x155⟩ : disk_Disk).off_), .bool ((⟨l142, l146, x149, x150, x151, (⟨x152, x153⟩ : disk_Fall), x154, x155⟩ : disk_Disk).armed_), .int .i64 ((⟨l142, l146, x149, x150, x151, (⟨x152, x153⟩ : disk_Fall), x154, x155⟩ : disk_Disk).left_), .int .u64 ((⟨l142, l146, x149, x150, x151, (⟨x152, x153⟩ : disk_Fall), x154, x155⟩ : disk_Disk).fall_.Keep), .int .i64 ((⟨l142, l146, x149, x150, x151, (⟨x152, x153⟩ : disk_Fall), x154, x155⟩ : disk_Disk).fall_.Tear), .int .i64 ((⟨l142, l146, x149, x150, x151, (⟨x152, x153⟩ : disk_Fall), x154, x155⟩ : disk_Disk).acts_), .int .i64 ((⟨l142, l146, x149, x150, x151, (⟨x152, x153⟩ : disk_Fall), x154, x155⟩ : disk_Disk).falls_)] 62, own eStr 9 p135 c136 ((⟨x130, x131, x132, x133, l134, x138, x139⟩ : journal_Journal).list_), own e_disk_sector 65 p143 c144 ((⟨l142, l146, x149, x150, x151, (⟨x152, x153⟩ : disk_Fall), x154, x155⟩ : disk_Disk).sure_), mpo (kInt .i64) (fun x : disk_sector => Value.agg #[.string x.s_, .int .i64 x.at_]) b148 ((⟨l142, l146, x149, x150, x151, (⟨x152, x153⟩ : disk_Fall), x154, x155⟩ : disk_Disk).wait_), pt r38_b2 #[.pointer (some ⟨r28_b2, 0, none⟩), .int .i64 r38_s1.boot_, .int .i64 r38_s1.n_] 72] ++ F0) rfl (nw_ow ?_)
      refine ow_vals 3 (j := 8) [1, 2, 3, 15, 16, 17, 121] [(1, .int .i64 x1), (2, .int .i64 x2), (3, .int .i64 x3), (15, .pointer (some ⟨r43_b2, 0, none⟩)), (16, .pointer none), (17, .int .i64 r156.2), (121, .bool (decide (r183 > 0)))] rfl (by kernel_rfl) ?_
      rcases if_some hF with ⟨h185, hF⟩ | ⟨h185, hF⟩
      · refine ow_slots (L' := [(1, .int .i64 x1), (2, .int .i64 x2), (3, .int .i64 x3), (15, .pointer (some ⟨r43_b2, 0, none⟩)), (16, .pointer none), (17, .int .i64 r156.2), (121, .bool true)]) (by rw [h185]) ?_
        refine ow_vals 4 (j := 12) [2, 3, 15, 16, 17, 125] [(2, .int .i64 x2), (3, .int .i64 x3), (15, .pointer (some ⟨r43_b2, 0, none⟩)), (16, .pointer none), (17, .int .i64 r156.2), (125, .bool (x1 == 3))] rfl (by kernel_rfl) ?_
        rcases if_some hF with ⟨h186, hF⟩ | ⟨h186, hF⟩
        · refine ow_slots (L' := [(2, .int .i64 x2), (3, .int .i64 x3), (15, .pointer (some ⟨r43_b2, 0, none⟩)), (16, .pointer none), (17, .int .i64 r156.2), (125, .bool true)]) (by rw [h186]) ?_
          refine ow_vals 4 (j := 16) [2, 15, 16, 17, 129] [(2, .int .i64 x2), (15, .pointer (some ⟨r43_b2, 0, none⟩)), (16, .pointer none), (17, .int .i64 r156.2), (129, .bool (x3 == 7))] rfl (by kernel_rfl) ?_
          rcases if_some hF with ⟨h187, hF⟩ | ⟨h187, hF⟩
          · refine ow_slots (L' := [(2, .int .i64 x2), (15, .pointer (some ⟨r43_b2, 0, none⟩)), (16, .pointer none), (17, .int .i64 r156.2), (129, .bool true)]) (by rw [h187]) ?_
            refine ow_vals 2 (j := 18) [2, 16, 17, 129, 130, 131] [(2, .int .i64 x2), (16, .pointer none), (17, .int .i64 r156.2), (129, .bool true), (130, .int .i64 x2), (131, .pointer (some ⟨r43_b2, 0, none⟩))] rfl (by kernel_rfl) ?_
            obtain ⟨r188, h189, hF⟩ := bind_some hF
            refine ow_pw rfl (pw_call (F := [pt r38_b2 #[.pointer (some ⟨r28_b2, 0, none⟩), .int .i64 r38_s1.boot_, .int .i64 r38_s1.n_] 72] ++ F0) rfl rfl rfl rfl rfl rfl rfl (by kernel_rfl) (perm_of_pulls [0, 0, 0, 0, 0, 0, 0] rfl) (c_journal_Journal_Used _ (⟨x130, x131, x132, x133, l134, x138, x139⟩ : journal_Journal) (⟨x140, x141⟩ : guard_Guard) (⟨l142, l146, x149, x150, x151, (⟨x152, x153⟩ : disk_Fall), x154, x155⟩ : disk_Disk) p135 c136 r43_b2 r43_b4 p143 c144 b148 r28_b2 r188 h189) ?_)
            rintro _ _ ⟨rfl, rfl⟩
            refine nw_H (H' := [imm I, pt r43_b2 #[.pointer (some ⟨r43_b4, 0, none⟩), .int .i64 ((⟨x130, x131, x132, x133, l134, x138, x139⟩ : journal_Journal).base_), .int .i64 ((⟨x130, x131, x132, x133, l134, x138, x139⟩ : journal_Journal).size_), .int .i64 ((⟨x130, x131, x132, x133, l134, x138, x139⟩ : journal_Journal).next_), .int .i64 ((⟨x130, x131, x132, x133, l134, x138, x139⟩ : journal_Journal).last_), .slice p135 ((⟨x130, x131, x132, x133, l134, x138, x139⟩ : journal_Journal).list_).length c136, .int .i64 ((⟨x130, x131, x132, x133, l134, x138, x139⟩ : journal_Journal).sure_), .bool ((⟨x130, x131, x132, x133, l134, x138, x139⟩ : journal_Journal).dead_)] 26, pt r43_b4 #[.pointer (some ⟨r28_b2, 0, none⟩), .int .i64 ((⟨x140, x141⟩ : guard_Guard).boot_), .int .i64 ((⟨x140, x141⟩ : guard_Guard).n_)] 72, pt r28_b2 #[.slice p143 ((⟨l142, l146, x149, x150, x151, (⟨x152, x153⟩ : disk_Fall), x154, x155⟩ : disk_Disk).sure_).length c144, .map (some b148), .bool ((⟨l142, l146, x149, x150, x151, (⟨x152, x153⟩ : disk_Fall), x154, x155⟩ : disk_Disk).off_), .bool ((⟨l142, l146, x149, x150, x151, (⟨x152, x153⟩ : disk_Fall), x154, x155⟩ : disk_Disk).armed_), .int .i64 ((⟨l142, l146, x149, x150, x151, (⟨x152, x153⟩ : disk_Fall), x154, x155⟩ : disk_Disk).left_), .int .u64 ((⟨l142, l146, x149, x150, x151, (⟨x152, x153⟩ : disk_Fall), x154, x155⟩ : disk_Disk).fall_.Keep), .int .i64 ((⟨l142, l146, x149, x150, x151, (⟨x152, x153⟩ : disk_Fall), x154, x155⟩ : disk_Disk).fall_.Tear), .int .i64 ((⟨l142, l146, x149, x150, x151, (⟨x152, x153⟩ : disk_Fall), x154, x155⟩ : disk_Disk).acts_), .int .i64 ((⟨l142, l146, x149, x150, x151, (⟨x152, x153⟩ : disk_Fall), x154, x155⟩ : disk_Disk).falls_)] 62, own eStr 9 p135 c136 ((⟨x130, x131, x132, x133, l134, x138, x139⟩ : journal_Journal).list_), own e_disk_sector 65 p143 c144 ((⟨l142, l146, x149, x150, x151, (⟨x152, x153⟩ : disk_Fall), x154, x155⟩ : disk_Disk).sure_), mpo (kInt .i64) (fun x : disk_sector => Value.agg #[.string x.s_, .int .i64 x.at_]) b148 ((⟨l142, l146, x149, x150, x151, (⟨x152, x153⟩ : disk_Fall), x154, x155⟩ : disk_Disk).wait_), pt r38_b2 #[.pointer (some ⟨r28_b2, 0, none⟩), .int .i64 r38_s1.boot_, .int .i64 r38_s1.n_] 72] ++ F0) rfl (nw_ow ?_)
            refine ow_vals 3 (j := 22) [2, 16, 17, 20] [(2, .int .i64 x2), (16, .pointer none), (17, .int .i64 r156.2), (20, .bool (decide (x2 ≥ r188)))] rfl (by kernel_rfl) ?_
            refine ow_end rfl ?_
            have hR := Option.some.inj hF
            exact fun a w hf hs => ⟨decide (x2 ≥ r188), hR, hf.keep [2, 16, 17, 20], sat_to [0, 0, 0, 0, 3, 0, 0, 0] 0 rfl hs⟩
          refine ow_slots (L' := [(2, .int .i64 x2), (15, .pointer (some ⟨r43_b2, 0, none⟩)), (16, .pointer none), (17, .int .i64 r156.2), (129, .bool false)]) (by rw [h187]) ?_
          refine ow_vals 6 (j := 22) [2, 16, 17, 20] [(2, .int .i64 x2), (16, .pointer none), (17, .int .i64 r156.2), (20, .bool false)] rfl (by kernel_rfl) ?_
          refine ow_end rfl ?_
          have hR := Option.some.inj hF
          exact fun a w hf hs => ⟨false, hR, hf.keep [2, 16, 17, 20], sat_to [0, 0, 0, 0, 3, 0, 0, 0] 0 rfl hs⟩
        refine ow_slots (L' := [(2, .int .i64 x2), (3, .int .i64 x3), (15, .pointer (some ⟨r43_b2, 0, none⟩)), (16, .pointer none), (17, .int .i64 r156.2), (125, .bool false)]) (by rw [h186]) ?_
        refine ow_vals 10 (j := 22) [2, 16, 17, 20] [(2, .int .i64 x2), (16, .pointer none), (17, .int .i64 r156.2), (20, .bool false)] rfl (by kernel_rfl) ?_
        refine ow_end rfl ?_
        have hR := Option.some.inj hF
        exact fun a w hf hs => ⟨false, hR, hf.keep [2, 16, 17, 20], sat_to [0, 0, 0, 0, 3, 0, 0, 0] 0 rfl hs⟩
      refine ow_slots (L' := [(1, .int .i64 x1), (2, .int .i64 x2), (3, .int .i64 x3), (15, .pointer (some ⟨r43_b2, 0, none⟩)), (16, .pointer none), (17, .int .i64 r156.2), (121, .bool false)]) (by rw [h185]) ?_
      refine ow_vals 14 (j := 22) [2, 16, 17, 20] [(2, .int .i64 x2), (16, .pointer none), (17, .int .i64 r156.2), (20, .bool false)] rfl (by kernel_rfl) ?_
      refine ow_end rfl ?_
      have hR := Option.some.inj hF
      exact fun a w hf hs => ⟨false, hR, hf.keep [2, 16, 17, 20], sat_to [0, 0, 0, 0, 3, 0, 0, 0] 0 rfl hs⟩
    rintro a w ⟨x190, hv, hf, hs⟩
    subst hv
    replace hF := hK182
    clear hK182
    try dsimp only at hF
    revert a w
    show CW _ _ _ 166 [(2, .int .i64 x2), (16, .pointer none), (17, .int .i64 r156.2), (20, .bool x190)] (SAT w0 ([imm I, pt r43_b2 #[.pointer (some ⟨r43_b4, 0, none⟩), .int .i64 ((⟨x130, x131, x132, x133, l134, x138, x139⟩ : journal_Journal).base_), .int .i64 ((⟨x130, x131, x132, x133, l134, x138, x139⟩ : journal_Journal).size_), .int .i64 ((⟨x130, x131, x132, x133, l134, x138, x139⟩ : journal_Journal).next_), .int .i64 ((⟨x130, x131, x132, x133, l134, x138, x139⟩ : journal_Journal).last_), .slice p135 ((⟨x130, x131, x132, x133, l134, x138, x139⟩ : journal_Journal).list_).length c136, .int .i64 ((⟨x130, x131, x132, x133, l134, x138, x139⟩ : journal_Journal).sure_), .bool ((⟨x130, x131, x132, x133, l134, x138, x139⟩ : journal_Journal).dead_)] 26, pt r43_b4 #[.pointer (some ⟨r28_b2, 0, none⟩), .int .i64 ((⟨x140, x141⟩ : guard_Guard).boot_), .int .i64 ((⟨x140, x141⟩ : guard_Guard).n_)] 72, pt r28_b2 #[.slice p143 ((⟨l142, l146, x149, x150, x151, (⟨x152, x153⟩ : disk_Fall), x154, x155⟩ : disk_Disk).sure_).length c144, .map (some b148), .bool ((⟨l142, l146, x149, x150, x151, (⟨x152, x153⟩ : disk_Fall), x154, x155⟩ : disk_Disk).off_), .bool ((⟨l142, l146, x149, x150, x151, (⟨x152, x153⟩ : disk_Fall), x154, x155⟩ : disk_Disk).armed_), .int .i64 ((⟨l142, l146, x149, x150, x151, (⟨x152, x153⟩ : disk_Fall), x154, x155⟩ : disk_Disk).left_), .int .u64 ((⟨l142, l146, x149, x150, x151, (⟨x152, x153⟩ : disk_Fall), x154, x155⟩ : disk_Disk).fall_.Keep), .int .i64 ((⟨l142, l146, x149, x150, x151, (⟨x152, x153⟩ : disk_Fall), x154, x155⟩ : disk_Disk).fall_.Tear), .int .i64 ((⟨l142, l146, x149, x150, x151, (⟨x152, x153⟩ : disk_Fall), x154, x155⟩ : disk_Disk).acts_), .int .i64 ((⟨l142, l146, x149, x150, x151, (⟨x152, x153⟩ : disk_Fall), x154, x155⟩ : disk_Disk).falls_)] 62, pt r38_b2 #[.pointer (some ⟨r28_b2, 0, none⟩), .int .i64 r38_s1.boot_, .int .i64 r38_s1.n_] 72, own eStr 9 p135 c136 ((⟨x130, x131, x132, x133, l134, x138, x139⟩ : journal_Journal).list_), own e_disk_sector 65 p143 c144 ((⟨l142, l146, x149, x150, x151, (⟨x152, x153⟩ : disk_Fall), x154, x155⟩ : disk_Disk).sure_), mpo (kInt .i64) (fun x : disk_sector => Value.agg #[.string x.s_, .int .i64 x.at_]) b148 ((⟨l142, l146, x149, x150, x151, (⟨x152, x153⟩ : disk_Fall), x154, x155⟩ : disk_Disk).wait_)] ++ F0))
    unfold F.law12_JournalOpens.r22 at hF
    refine cw_seq ?_
    refine cw_region ?_
    refine ow_vals 3 (j := 3) [2, 16, 20, 137] [(2, .int .i64 x2), (16, .pointer none), (20, .bool x190), (137, .bool (r156.2 == 0))] rfl (by kernel_rfl) ?_
    rcases if_some hF with ⟨h191, hF⟩ | ⟨h191, hF⟩
    · refine ow_slots (L' := [(2, .int .i64 x2), (16, .pointer none), (20, .bool x190), (137, .bool true)]) (by rw [h191]) ?_
      refine ow_vals 1 (j := 4) [2, 16, 20, 137, 138] [(2, .int .i64 x2), (16, .pointer none), (20, .bool x190), (137, .bool true), (138, .pointer none)] rfl (by kernel_rfl) ?_
      obtain ⟨r192, h193, hF⟩ := bind_some hF
      refine ow_pw rfl (pw_call (F := [pt r43_b2 #[.pointer (some ⟨r43_b4, 0, none⟩), .int .i64 ((⟨x130, x131, x132, x133, l134, x138, x139⟩ : journal_Journal).base_), .int .i64 ((⟨x130, x131, x132, x133, l134, x138, x139⟩ : journal_Journal).size_), .int .i64 ((⟨x130, x131, x132, x133, l134, x138, x139⟩ : journal_Journal).next_), .int .i64 ((⟨x130, x131, x132, x133, l134, x138, x139⟩ : journal_Journal).last_), .slice p135 ((⟨x130, x131, x132, x133, l134, x138, x139⟩ : journal_Journal).list_).length c136, .int .i64 ((⟨x130, x131, x132, x133, l134, x138, x139⟩ : journal_Journal).sure_), .bool ((⟨x130, x131, x132, x133, l134, x138, x139⟩ : journal_Journal).dead_)] 26, pt r43_b4 #[.pointer (some ⟨r28_b2, 0, none⟩), .int .i64 ((⟨x140, x141⟩ : guard_Guard).boot_), .int .i64 ((⟨x140, x141⟩ : guard_Guard).n_)] 72, pt r28_b2 #[.slice p143 ((⟨l142, l146, x149, x150, x151, (⟨x152, x153⟩ : disk_Fall), x154, x155⟩ : disk_Disk).sure_).length c144, .map (some b148), .bool ((⟨l142, l146, x149, x150, x151, (⟨x152, x153⟩ : disk_Fall), x154, x155⟩ : disk_Disk).off_), .bool ((⟨l142, l146, x149, x150, x151, (⟨x152, x153⟩ : disk_Fall), x154, x155⟩ : disk_Disk).armed_), .int .i64 ((⟨l142, l146, x149, x150, x151, (⟨x152, x153⟩ : disk_Fall), x154, x155⟩ : disk_Disk).left_), .int .u64 ((⟨l142, l146, x149, x150, x151, (⟨x152, x153⟩ : disk_Fall), x154, x155⟩ : disk_Disk).fall_.Keep), .int .i64 ((⟨l142, l146, x149, x150, x151, (⟨x152, x153⟩ : disk_Fall), x154, x155⟩ : disk_Disk).fall_.Tear), .int .i64 ((⟨l142, l146, x149, x150, x151, (⟨x152, x153⟩ : disk_Fall), x154, x155⟩ : disk_Disk).acts_), .int .i64 ((⟨l142, l146, x149, x150, x151, (⟨x152, x153⟩ : disk_Fall), x154, x155⟩ : disk_Disk).falls_)] 62, pt r38_b2 #[.pointer (some ⟨r28_b2, 0, none⟩), .int .i64 r38_s1.boot_, .int .i64 r38_s1.n_] 72, own eStr 9 p135 c136 ((⟨x130, x131, x132, x133, l134, x138, x139⟩ : journal_Journal).list_), own e_disk_sector 65 p143 c144 ((⟨l142, l146, x149, x150, x151, (⟨x152, x153⟩ : disk_Fall), x154, x155⟩ : disk_Disk).sure_), mpo (kInt .i64) (fun x : disk_sector => Value.agg #[.string x.s_, .int .i64 x.at_]) b148 ((⟨l142, l146, x149, x150, x151, (⟨x152, x153⟩ : disk_Fall), x154, x155⟩ : disk_Disk).wait_)] ++ F0) rfl rfl rfl rfl rfl rfl rfl (by kernel_rfl) (perm_of_pulls [0] rfl) (c_journal_Journal_Records _ r192 h193) ?_)
      rintro _ _ ⟨r192_p1, r192_c2, rfl, rfl⟩
      refine nw_H (H' := [imm I, own eStr 9 r192_p1 r192_c2 r192, pt r43_b2 #[.pointer (some ⟨r43_b4, 0, none⟩), .int .i64 ((⟨x130, x131, x132, x133, l134, x138, x139⟩ : journal_Journal).base_), .int .i64 ((⟨x130, x131, x132, x133, l134, x138, x139⟩ : journal_Journal).size_), .int .i64 ((⟨x130, x131, x132, x133, l134, x138, x139⟩ : journal_Journal).next_), .int .i64 ((⟨x130, x131, x132, x133, l134, x138, x139⟩ : journal_Journal).last_), .slice p135 ((⟨x130, x131, x132, x133, l134, x138, x139⟩ : journal_Journal).list_).length c136, .int .i64 ((⟨x130, x131, x132, x133, l134, x138, x139⟩ : journal_Journal).sure_), .bool ((⟨x130, x131, x132, x133, l134, x138, x139⟩ : journal_Journal).dead_)] 26, pt r43_b4 #[.pointer (some ⟨r28_b2, 0, none⟩), .int .i64 ((⟨x140, x141⟩ : guard_Guard).boot_), .int .i64 ((⟨x140, x141⟩ : guard_Guard).n_)] 72, pt r28_b2 #[.slice p143 ((⟨l142, l146, x149, x150, x151, (⟨x152, x153⟩ : disk_Fall), x154, x155⟩ : disk_Disk).sure_).length c144, .map (some b148), .bool ((⟨l142, l146, x149, x150, x151, (⟨x152, x153⟩ : disk_Fall), x154, x155⟩ : disk_Disk).off_), .bool ((⟨l142, l146, x149, x150, x151, (⟨x152, x153⟩ : disk_Fall), x154, x155⟩ : disk_Disk).armed_), .int .i64 ((⟨l142, l146, x149, x150, x151, (⟨x152, x153⟩ : disk_Fall), x154, x155⟩ : disk_Disk).left_), .int .u64 ((⟨l142, l146, x149, x150, x151, (⟨x152, x153⟩ : disk_Fall), x154, x155⟩ : disk_Disk).fall_.Keep), .int .i64 ((⟨l142, l146, x149, x150, x151, (⟨x152, x153⟩ : disk_Fall), x154, x155⟩ : disk_Disk).fall_.Tear), .int .i64 ((⟨l142, l146, x149, x150, x151, (⟨x152, x153⟩ : disk_Fall), x154, x155⟩ : disk_Disk).acts_), .int .i64 ((⟨l142, l146, x149, x150, x151, (⟨x152, x153⟩ : disk_Fall), x154, x155⟩ : disk_Disk).falls_)] 62, pt r38_b2 #[.pointer (some ⟨r28_b2, 0, none⟩), .int .i64 r38_s1.boot_, .int .i64 r38_s1.n_] 72, own eStr 9 p135 c136 ((⟨x130, x131, x132, x133, l134, x138, x139⟩ : journal_Journal).list_), own e_disk_sector 65 p143 c144 ((⟨l142, l146, x149, x150, x151, (⟨x152, x153⟩ : disk_Fall), x154, x155⟩ : disk_Disk).sure_), mpo (kInt .i64) (fun x : disk_sector => Value.agg #[.string x.s_, .int .i64 x.at_]) b148 ((⟨l142, l146, x149, x150, x151, (⟨x152, x153⟩ : disk_Fall), x154, x155⟩ : disk_Disk).wait_)] ++ F0) rfl (nw_ow ?_)
      refine ow_vals 6 (j := 11) [2, 16, 20, 145] [(2, .int .i64 x2), (16, .pointer none), (20, .bool x190), (145, .bool (((r192.length : Int) == 1) == x190))] rfl (by kernel_rfl) ?_
      rcases if_some hF with ⟨h195, hF⟩ | ⟨h195, hF⟩
      · refine ow_slots (L' := [(2, .int .i64 x2), (16, .pointer none), (20, .bool x190), (145, .bool true)]) (by rw [h195]) ?_
        refine ow_vals 1 (j := 12) [2, 16, 20, 145, 146] [(2, .int .i64 x2), (16, .pointer none), (20, .bool x190), (145, .bool true), (146, .pointer none)] rfl (by kernel_rfl) ?_
        obtain ⟨r196, h197, hF⟩ := bind_some hF
        refine ow_pw rfl (pw_call (F := [own eStr 9 r192_p1 r192_c2 r192, pt r43_b2 #[.pointer (some ⟨r43_b4, 0, none⟩), .int .i64 ((⟨x130, x131, x132, x133, l134, x138, x139⟩ : journal_Journal).base_), .int .i64 ((⟨x130, x131, x132, x133, l134, x138, x139⟩ : journal_Journal).size_), .int .i64 ((⟨x130, x131, x132, x133, l134, x138, x139⟩ : journal_Journal).next_), .int .i64 ((⟨x130, x131, x132, x133, l134, x138, x139⟩ : journal_Journal).last_), .slice p135 ((⟨x130, x131, x132, x133, l134, x138, x139⟩ : journal_Journal).list_).length c136, .int .i64 ((⟨x130, x131, x132, x133, l134, x138, x139⟩ : journal_Journal).sure_), .bool ((⟨x130, x131, x132, x133, l134, x138, x139⟩ : journal_Journal).dead_)] 26, pt r43_b4 #[.pointer (some ⟨r28_b2, 0, none⟩), .int .i64 ((⟨x140, x141⟩ : guard_Guard).boot_), .int .i64 ((⟨x140, x141⟩ : guard_Guard).n_)] 72, pt r28_b2 #[.slice p143 ((⟨l142, l146, x149, x150, x151, (⟨x152, x153⟩ : disk_Fall), x154, x155⟩ : disk_Disk).sure_).length c144, .map (some b148), .bool ((⟨l142, l146, x149, x150, x151, (⟨x152, x153⟩ : disk_Fall), x154, x155⟩ : disk_Disk).off_), .bool ((⟨l142, l146, x149, x150, x151, (⟨x152, x153⟩ : disk_Fall), x154, x155⟩ : disk_Disk).armed_), .int .i64 ((⟨l142, l146, x149, x150, x151, (⟨x152, x153⟩ : disk_Fall), x154, x155⟩ : disk_Disk).left_), .int .u64 ((⟨l142, l146, x149, x150, x151, (⟨x152, x153⟩ : disk_Fall), x154, x155⟩ : disk_Disk).fall_.Keep), .int .i64 ((⟨l142, l146, x149, x150, x151, (⟨x152, x153⟩ : disk_Fall), x154, x155⟩ : disk_Disk).fall_.Tear), .int .i64 ((⟨l142, l146, x149, x150, x151, (⟨x152, x153⟩ : disk_Fall), x154, x155⟩ : disk_Disk).acts_), .int .i64 ((⟨l142, l146, x149, x150, x151, (⟨x152, x153⟩ : disk_Fall), x154, x155⟩ : disk_Disk).falls_)] 62, pt r38_b2 #[.pointer (some ⟨r28_b2, 0, none⟩), .int .i64 r38_s1.boot_, .int .i64 r38_s1.n_] 72, own eStr 9 p135 c136 ((⟨x130, x131, x132, x133, l134, x138, x139⟩ : journal_Journal).list_), own e_disk_sector 65 p143 c144 ((⟨l142, l146, x149, x150, x151, (⟨x152, x153⟩ : disk_Fall), x154, x155⟩ : disk_Disk).sure_), mpo (kInt .i64) (fun x : disk_sector => Value.agg #[.string x.s_, .int .i64 x.at_]) b148 ((⟨l142, l146, x149, x150, x151, (⟨x152, x153⟩ : disk_Fall), x154, x155⟩ : disk_Disk).wait_)] ++ F0) rfl rfl rfl rfl rfl rfl rfl (by kernel_rfl) (perm_of_pulls [0] rfl) (c_journal_Journal_Records _ r196 h197) ?_)
        rintro _ _ ⟨r196_p1, r196_c2, rfl, rfl⟩
        refine nw_H (H' := [imm I, own eStr 9 r196_p1 r196_c2 r196, own eStr 9 r192_p1 r192_c2 r192, pt r43_b2 #[.pointer (some ⟨r43_b4, 0, none⟩), .int .i64 ((⟨x130, x131, x132, x133, l134, x138, x139⟩ : journal_Journal).base_), .int .i64 ((⟨x130, x131, x132, x133, l134, x138, x139⟩ : journal_Journal).size_), .int .i64 ((⟨x130, x131, x132, x133, l134, x138, x139⟩ : journal_Journal).next_), .int .i64 ((⟨x130, x131, x132, x133, l134, x138, x139⟩ : journal_Journal).last_), .slice p135 ((⟨x130, x131, x132, x133, l134, x138, x139⟩ : journal_Journal).list_).length c136, .int .i64 ((⟨x130, x131, x132, x133, l134, x138, x139⟩ : journal_Journal).sure_), .bool ((⟨x130, x131, x132, x133, l134, x138, x139⟩ : journal_Journal).dead_)] 26, pt r43_b4 #[.pointer (some ⟨r28_b2, 0, none⟩), .int .i64 ((⟨x140, x141⟩ : guard_Guard).boot_), .int .i64 ((⟨x140, x141⟩ : guard_Guard).n_)] 72, pt r28_b2 #[.slice p143 ((⟨l142, l146, x149, x150, x151, (⟨x152, x153⟩ : disk_Fall), x154, x155⟩ : disk_Disk).sure_).length c144, .map (some b148), .bool ((⟨l142, l146, x149, x150, x151, (⟨x152, x153⟩ : disk_Fall), x154, x155⟩ : disk_Disk).off_), .bool ((⟨l142, l146, x149, x150, x151, (⟨x152, x153⟩ : disk_Fall), x154, x155⟩ : disk_Disk).armed_), .int .i64 ((⟨l142, l146, x149, x150, x151, (⟨x152, x153⟩ : disk_Fall), x154, x155⟩ : disk_Disk).left_), .int .u64 ((⟨l142, l146, x149, x150, x151, (⟨x152, x153⟩ : disk_Fall), x154, x155⟩ : disk_Disk).fall_.Keep), .int .i64 ((⟨l142, l146, x149, x150, x151, (⟨x152, x153⟩ : disk_Fall), x154, x155⟩ : disk_Disk).fall_.Tear), .int .i64 ((⟨l142, l146, x149, x150, x151, (⟨x152, x153⟩ : disk_Fall), x154, x155⟩ : disk_Disk).acts_), .int .i64 ((⟨l142, l146, x149, x150, x151, (⟨x152, x153⟩ : disk_Fall), x154, x155⟩ : disk_Disk).falls_)] 62, pt r38_b2 #[.pointer (some ⟨r28_b2, 0, none⟩), .int .i64 r38_s1.boot_, .int .i64 r38_s1.n_] 72, own eStr 9 p135 c136 ((⟨x130, x131, x132, x133, l134, x138, x139⟩ : journal_Journal).list_), own e_disk_sector 65 p143 c144 ((⟨l142, l146, x149, x150, x151, (⟨x152, x153⟩ : disk_Fall), x154, x155⟩ : disk_Disk).sure_), mpo (kInt .i64) (fun x : disk_sector => Value.agg #[.string x.s_, .int .i64 x.at_]) b148 ((⟨l142, l146, x149, x150, x151, (⟨x152, x153⟩ : disk_Fall), x154, x155⟩ : disk_Disk).wait_)] ++ F0) rfl (nw_ow ?_)
        refine ow_vals 7 (j := 20) [2, 16, 154] [(2, .int .i64 x2), (16, .pointer none), (154, .bool (((r196.length : Int) == 0) == (!x190)))] rfl (by kernel_rfl) ?_
        rcases if_some hF with ⟨h199, hF⟩ | ⟨h199, hF⟩
        · refine ow_slots (L' := [(2, .int .i64 x2), (16, .pointer none), (154, .bool true)]) (by rw [h199]) ?_
          refine ow_vals 1 (j := 21) [2, 16, 154, 155] [(2, .int .i64 x2), (16, .pointer none), (154, .bool true), (155, .pointer none)] rfl (by kernel_rfl) ?_
          obtain ⟨r200, h201, hF⟩ := bind_some hF
          refine ow_pw rfl (pw_call (F := [own eStr 9 r196_p1 r196_c2 r196, own eStr 9 r192_p1 r192_c2 r192, pt r43_b2 #[.pointer (some ⟨r43_b4, 0, none⟩), .int .i64 ((⟨x130, x131, x132, x133, l134, x138, x139⟩ : journal_Journal).base_), .int .i64 ((⟨x130, x131, x132, x133, l134, x138, x139⟩ : journal_Journal).size_), .int .i64 ((⟨x130, x131, x132, x133, l134, x138, x139⟩ : journal_Journal).next_), .int .i64 ((⟨x130, x131, x132, x133, l134, x138, x139⟩ : journal_Journal).last_), .slice p135 ((⟨x130, x131, x132, x133, l134, x138, x139⟩ : journal_Journal).list_).length c136, .int .i64 ((⟨x130, x131, x132, x133, l134, x138, x139⟩ : journal_Journal).sure_), .bool ((⟨x130, x131, x132, x133, l134, x138, x139⟩ : journal_Journal).dead_)] 26, pt r43_b4 #[.pointer (some ⟨r28_b2, 0, none⟩), .int .i64 ((⟨x140, x141⟩ : guard_Guard).boot_), .int .i64 ((⟨x140, x141⟩ : guard_Guard).n_)] 72, pt r28_b2 #[.slice p143 ((⟨l142, l146, x149, x150, x151, (⟨x152, x153⟩ : disk_Fall), x154, x155⟩ : disk_Disk).sure_).length c144, .map (some b148), .bool ((⟨l142, l146, x149, x150, x151, (⟨x152, x153⟩ : disk_Fall), x154, x155⟩ : disk_Disk).off_), .bool ((⟨l142, l146, x149, x150, x151, (⟨x152, x153⟩ : disk_Fall), x154, x155⟩ : disk_Disk).armed_), .int .i64 ((⟨l142, l146, x149, x150, x151, (⟨x152, x153⟩ : disk_Fall), x154, x155⟩ : disk_Disk).left_), .int .u64 ((⟨l142, l146, x149, x150, x151, (⟨x152, x153⟩ : disk_Fall), x154, x155⟩ : disk_Disk).fall_.Keep), .int .i64 ((⟨l142, l146, x149, x150, x151, (⟨x152, x153⟩ : disk_Fall), x154, x155⟩ : disk_Disk).fall_.Tear), .int .i64 ((⟨l142, l146, x149, x150, x151, (⟨x152, x153⟩ : disk_Fall), x154, x155⟩ : disk_Disk).acts_), .int .i64 ((⟨l142, l146, x149, x150, x151, (⟨x152, x153⟩ : disk_Fall), x154, x155⟩ : disk_Disk).falls_)] 62, pt r38_b2 #[.pointer (some ⟨r28_b2, 0, none⟩), .int .i64 r38_s1.boot_, .int .i64 r38_s1.n_] 72, own eStr 9 p135 c136 ((⟨x130, x131, x132, x133, l134, x138, x139⟩ : journal_Journal).list_), own e_disk_sector 65 p143 c144 ((⟨l142, l146, x149, x150, x151, (⟨x152, x153⟩ : disk_Fall), x154, x155⟩ : disk_Disk).sure_), mpo (kInt .i64) (fun x : disk_sector => Value.agg #[.string x.s_, .int .i64 x.at_]) b148 ((⟨l142, l146, x149, x150, x151, (⟨x152, x153⟩ : disk_Fall), x154, x155⟩ : disk_Disk).wait_)] ++ F0) rfl rfl rfl rfl rfl rfl rfl (by kernel_rfl) (perm_of_pulls [0] rfl) (c_journal_Journal_Left_1 _ r200 h201) ?_)
          rintro _ _ ⟨rfl, rfl⟩
          refine nw_H (H' := [imm I, own eStr 9 r196_p1 r196_c2 r196, own eStr 9 r192_p1 r192_c2 r192, pt r43_b2 #[.pointer (some ⟨r43_b4, 0, none⟩), .int .i64 ((⟨x130, x131, x132, x133, l134, x138, x139⟩ : journal_Journal).base_), .int .i64 ((⟨x130, x131, x132, x133, l134, x138, x139⟩ : journal_Journal).size_), .int .i64 ((⟨x130, x131, x132, x133, l134, x138, x139⟩ : journal_Journal).next_), .int .i64 ((⟨x130, x131, x132, x133, l134, x138, x139⟩ : journal_Journal).last_), .slice p135 ((⟨x130, x131, x132, x133, l134, x138, x139⟩ : journal_Journal).list_).length c136, .int .i64 ((⟨x130, x131, x132, x133, l134, x138, x139⟩ : journal_Journal).sure_), .bool ((⟨x130, x131, x132, x133, l134, x138, x139⟩ : journal_Journal).dead_)] 26, pt r43_b4 #[.pointer (some ⟨r28_b2, 0, none⟩), .int .i64 ((⟨x140, x141⟩ : guard_Guard).boot_), .int .i64 ((⟨x140, x141⟩ : guard_Guard).n_)] 72, pt r28_b2 #[.slice p143 ((⟨l142, l146, x149, x150, x151, (⟨x152, x153⟩ : disk_Fall), x154, x155⟩ : disk_Disk).sure_).length c144, .map (some b148), .bool ((⟨l142, l146, x149, x150, x151, (⟨x152, x153⟩ : disk_Fall), x154, x155⟩ : disk_Disk).off_), .bool ((⟨l142, l146, x149, x150, x151, (⟨x152, x153⟩ : disk_Fall), x154, x155⟩ : disk_Disk).armed_), .int .i64 ((⟨l142, l146, x149, x150, x151, (⟨x152, x153⟩ : disk_Fall), x154, x155⟩ : disk_Disk).left_), .int .u64 ((⟨l142, l146, x149, x150, x151, (⟨x152, x153⟩ : disk_Fall), x154, x155⟩ : disk_Disk).fall_.Keep), .int .i64 ((⟨l142, l146, x149, x150, x151, (⟨x152, x153⟩ : disk_Fall), x154, x155⟩ : disk_Disk).fall_.Tear), .int .i64 ((⟨l142, l146, x149, x150, x151, (⟨x152, x153⟩ : disk_Fall), x154, x155⟩ : disk_Disk).acts_), .int .i64 ((⟨l142, l146, x149, x150, x151, (⟨x152, x153⟩ : disk_Fall), x154, x155⟩ : disk_Disk).falls_)] 62, pt r38_b2 #[.pointer (some ⟨r28_b2, 0, none⟩), .int .i64 r38_s1.boot_, .int .i64 r38_s1.n_] 72, own eStr 9 p135 c136 ((⟨x130, x131, x132, x133, l134, x138, x139⟩ : journal_Journal).list_), own e_disk_sector 65 p143 c144 ((⟨l142, l146, x149, x150, x151, (⟨x152, x153⟩ : disk_Fall), x154, x155⟩ : disk_Disk).sure_), mpo (kInt .i64) (fun x : disk_sector => Value.agg #[.string x.s_, .int .i64 x.at_]) b148 ((⟨l142, l146, x149, x150, x151, (⟨x152, x153⟩ : disk_Fall), x154, x155⟩ : disk_Disk).wait_)] ++ F0) rfl (nw_ow ?_)
          refine ow_vals 2 (j := 24) [154, 156, 157, 158] [(154, .bool true), (156, .int .i64 r200), (157, .int .i64 x2), (158, .pointer none)] rfl (by kernel_rfl) ?_
          obtain ⟨r202, h203, hF⟩ := bind_some hF
          refine ow_pw rfl (pw_call (F := [own eStr 9 r196_p1 r196_c2 r196, own eStr 9 r192_p1 r192_c2 r192, pt r43_b2 #[.pointer (some ⟨r43_b4, 0, none⟩), .int .i64 ((⟨x130, x131, x132, x133, l134, x138, x139⟩ : journal_Journal).base_), .int .i64 ((⟨x130, x131, x132, x133, l134, x138, x139⟩ : journal_Journal).size_), .int .i64 ((⟨x130, x131, x132, x133, l134, x138, x139⟩ : journal_Journal).next_), .int .i64 ((⟨x130, x131, x132, x133, l134, x138, x139⟩ : journal_Journal).last_), .slice p135 ((⟨x130, x131, x132, x133, l134, x138, x139⟩ : journal_Journal).list_).length c136, .int .i64 ((⟨x130, x131, x132, x133, l134, x138, x139⟩ : journal_Journal).sure_), .bool ((⟨x130, x131, x132, x133, l134, x138, x139⟩ : journal_Journal).dead_)] 26, pt r43_b4 #[.pointer (some ⟨r28_b2, 0, none⟩), .int .i64 ((⟨x140, x141⟩ : guard_Guard).boot_), .int .i64 ((⟨x140, x141⟩ : guard_Guard).n_)] 72, pt r28_b2 #[.slice p143 ((⟨l142, l146, x149, x150, x151, (⟨x152, x153⟩ : disk_Fall), x154, x155⟩ : disk_Disk).sure_).length c144, .map (some b148), .bool ((⟨l142, l146, x149, x150, x151, (⟨x152, x153⟩ : disk_Fall), x154, x155⟩ : disk_Disk).off_), .bool ((⟨l142, l146, x149, x150, x151, (⟨x152, x153⟩ : disk_Fall), x154, x155⟩ : disk_Disk).armed_), .int .i64 ((⟨l142, l146, x149, x150, x151, (⟨x152, x153⟩ : disk_Fall), x154, x155⟩ : disk_Disk).left_), .int .u64 ((⟨l142, l146, x149, x150, x151, (⟨x152, x153⟩ : disk_Fall), x154, x155⟩ : disk_Disk).fall_.Keep), .int .i64 ((⟨l142, l146, x149, x150, x151, (⟨x152, x153⟩ : disk_Fall), x154, x155⟩ : disk_Disk).fall_.Tear), .int .i64 ((⟨l142, l146, x149, x150, x151, (⟨x152, x153⟩ : disk_Fall), x154, x155⟩ : disk_Disk).acts_), .int .i64 ((⟨l142, l146, x149, x150, x151, (⟨x152, x153⟩ : disk_Fall), x154, x155⟩ : disk_Disk).falls_)] 62, pt r38_b2 #[.pointer (some ⟨r28_b2, 0, none⟩), .int .i64 r38_s1.boot_, .int .i64 r38_s1.n_] 72, own eStr 9 p135 c136 ((⟨x130, x131, x132, x133, l134, x138, x139⟩ : journal_Journal).list_), own e_disk_sector 65 p143 c144 ((⟨l142, l146, x149, x150, x151, (⟨x152, x153⟩ : disk_Fall), x154, x155⟩ : disk_Disk).sure_), mpo (kInt .i64) (fun x : disk_sector => Value.agg #[.string x.s_, .int .i64 x.at_]) b148 ((⟨l142, l146, x149, x150, x151, (⟨x152, x153⟩ : disk_Fall), x154, x155⟩ : disk_Disk).wait_)] ++ F0) rfl rfl rfl rfl rfl rfl rfl (by kernel_rfl) (perm_of_pulls [0] rfl) (c_journal_Journal_Used_1 _ r202 h203) ?_)
          rintro _ _ ⟨rfl, rfl⟩
          refine nw_H (H' := [imm I, own eStr 9 r196_p1 r196_c2 r196, own eStr 9 r192_p1 r192_c2 r192, pt r43_b2 #[.pointer (some ⟨r43_b4, 0, none⟩), .int .i64 ((⟨x130, x131, x132, x133, l134, x138, x139⟩ : journal_Journal).base_), .int .i64 ((⟨x130, x131, x132, x133, l134, x138, x139⟩ : journal_Journal).size_), .int .i64 ((⟨x130, x131, x132, x133, l134, x138, x139⟩ : journal_Journal).next_), .int .i64 ((⟨x130, x131, x132, x133, l134, x138, x139⟩ : journal_Journal).last_), .slice p135 ((⟨x130, x131, x132, x133, l134, x138, x139⟩ : journal_Journal).list_).length c136, .int .i64 ((⟨x130, x131, x132, x133, l134, x138, x139⟩ : journal_Journal).sure_), .bool ((⟨x130, x131, x132, x133, l134, x138, x139⟩ : journal_Journal).dead_)] 26, pt r43_b4 #[.pointer (some ⟨r28_b2, 0, none⟩), .int .i64 ((⟨x140, x141⟩ : guard_Guard).boot_), .int .i64 ((⟨x140, x141⟩ : guard_Guard).n_)] 72, pt r28_b2 #[.slice p143 ((⟨l142, l146, x149, x150, x151, (⟨x152, x153⟩ : disk_Fall), x154, x155⟩ : disk_Disk).sure_).length c144, .map (some b148), .bool ((⟨l142, l146, x149, x150, x151, (⟨x152, x153⟩ : disk_Fall), x154, x155⟩ : disk_Disk).off_), .bool ((⟨l142, l146, x149, x150, x151, (⟨x152, x153⟩ : disk_Fall), x154, x155⟩ : disk_Disk).armed_), .int .i64 ((⟨l142, l146, x149, x150, x151, (⟨x152, x153⟩ : disk_Fall), x154, x155⟩ : disk_Disk).left_), .int .u64 ((⟨l142, l146, x149, x150, x151, (⟨x152, x153⟩ : disk_Fall), x154, x155⟩ : disk_Disk).fall_.Keep), .int .i64 ((⟨l142, l146, x149, x150, x151, (⟨x152, x153⟩ : disk_Fall), x154, x155⟩ : disk_Disk).fall_.Tear), .int .i64 ((⟨l142, l146, x149, x150, x151, (⟨x152, x153⟩ : disk_Fall), x154, x155⟩ : disk_Disk).acts_), .int .i64 ((⟨l142, l146, x149, x150, x151, (⟨x152, x153⟩ : disk_Fall), x154, x155⟩ : disk_Disk).falls_)] 62, pt r38_b2 #[.pointer (some ⟨r28_b2, 0, none⟩), .int .i64 r38_s1.boot_, .int .i64 r38_s1.n_] 72, own eStr 9 p135 c136 ((⟨x130, x131, x132, x133, l134, x138, x139⟩ : journal_Journal).list_), own e_disk_sector 65 p143 c144 ((⟨l142, l146, x149, x150, x151, (⟨x152, x153⟩ : disk_Fall), x154, x155⟩ : disk_Disk).sure_), mpo (kInt .i64) (fun x : disk_sector => Value.agg #[.string x.s_, .int .i64 x.at_]) b148 ((⟨l142, l146, x149, x150, x151, (⟨x152, x153⟩ : disk_Fall), x154, x155⟩ : disk_Disk).wait_)] ++ F0) rfl (nw_ow ?_)
          refine ow_vals 4 (j := 29) [163] [(163, .bool (r200 == (IntKind.i64.wrap (x2 - r202))))] rfl (by kernel_rfl) ?_
          rcases if_some hF with ⟨h204, hF⟩ | ⟨h204, hF⟩
          · refine ow_slots (L' := [(163, .bool true)]) (by rw [h204]) ?_
            obtain ⟨r205, h206, hF⟩ := bind_some hF
            refine ow_pw rfl (pw_call (F := [own eStr 9 r196_p1 r196_c2 r196, own eStr 9 r192_p1 r192_c2 r192, pt r43_b2 #[.pointer (some ⟨r43_b4, 0, none⟩), .int .i64 ((⟨x130, x131, x132, x133, l134, x138, x139⟩ : journal_Journal).base_), .int .i64 ((⟨x130, x131, x132, x133, l134, x138, x139⟩ : journal_Journal).size_), .int .i64 ((⟨x130, x131, x132, x133, l134, x138, x139⟩ : journal_Journal).next_), .int .i64 ((⟨x130, x131, x132, x133, l134, x138, x139⟩ : journal_Journal).last_), .slice p135 ((⟨x130, x131, x132, x133, l134, x138, x139⟩ : journal_Journal).list_).length c136, .int .i64 ((⟨x130, x131, x132, x133, l134, x138, x139⟩ : journal_Journal).sure_), .bool ((⟨x130, x131, x132, x133, l134, x138, x139⟩ : journal_Journal).dead_)] 26, pt r43_b4 #[.pointer (some ⟨r28_b2, 0, none⟩), .int .i64 ((⟨x140, x141⟩ : guard_Guard).boot_), .int .i64 ((⟨x140, x141⟩ : guard_Guard).n_)] 72, pt r28_b2 #[.slice p143 ((⟨l142, l146, x149, x150, x151, (⟨x152, x153⟩ : disk_Fall), x154, x155⟩ : disk_Disk).sure_).length c144, .map (some b148), .bool ((⟨l142, l146, x149, x150, x151, (⟨x152, x153⟩ : disk_Fall), x154, x155⟩ : disk_Disk).off_), .bool ((⟨l142, l146, x149, x150, x151, (⟨x152, x153⟩ : disk_Fall), x154, x155⟩ : disk_Disk).armed_), .int .i64 ((⟨l142, l146, x149, x150, x151, (⟨x152, x153⟩ : disk_Fall), x154, x155⟩ : disk_Disk).left_), .int .u64 ((⟨l142, l146, x149, x150, x151, (⟨x152, x153⟩ : disk_Fall), x154, x155⟩ : disk_Disk).fall_.Keep), .int .i64 ((⟨l142, l146, x149, x150, x151, (⟨x152, x153⟩ : disk_Fall), x154, x155⟩ : disk_Disk).fall_.Tear), .int .i64 ((⟨l142, l146, x149, x150, x151, (⟨x152, x153⟩ : disk_Fall), x154, x155⟩ : disk_Disk).acts_), .int .i64 ((⟨l142, l146, x149, x150, x151, (⟨x152, x153⟩ : disk_Fall), x154, x155⟩ : disk_Disk).falls_)] 62, pt r38_b2 #[.pointer (some ⟨r28_b2, 0, none⟩), .int .i64 r38_s1.boot_, .int .i64 r38_s1.n_] 72, own eStr 9 p135 c136 ((⟨x130, x131, x132, x133, l134, x138, x139⟩ : journal_Journal).list_), own e_disk_sector 65 p143 c144 ((⟨l142, l146, x149, x150, x151, (⟨x152, x153⟩ : disk_Fall), x154, x155⟩ : disk_Disk).sure_), mpo (kInt .i64) (fun x : disk_sector => Value.agg #[.string x.s_, .int .i64 x.at_]) b148 ((⟨l142, l146, x149, x150, x151, (⟨x152, x153⟩ : disk_Fall), x154, x155⟩ : disk_Disk).wait_)] ++ F0) rfl rfl rfl rfl rfl rfl rfl (by kernel_rfl) (perm_of_pulls [0] rfl) (c_law12_awake _ r205 h206) ?_)
            rintro _ _ ⟨rfl, rfl⟩
            refine nw_H (H' := [imm I, own eStr 9 r196_p1 r196_c2 r196, own eStr 9 r192_p1 r192_c2 r192, pt r43_b2 #[.pointer (some ⟨r43_b4, 0, none⟩), .int .i64 ((⟨x130, x131, x132, x133, l134, x138, x139⟩ : journal_Journal).base_), .int .i64 ((⟨x130, x131, x132, x133, l134, x138, x139⟩ : journal_Journal).size_), .int .i64 ((⟨x130, x131, x132, x133, l134, x138, x139⟩ : journal_Journal).next_), .int .i64 ((⟨x130, x131, x132, x133, l134, x138, x139⟩ : journal_Journal).last_), .slice p135 ((⟨x130, x131, x132, x133, l134, x138, x139⟩ : journal_Journal).list_).length c136, .int .i64 ((⟨x130, x131, x132, x133, l134, x138, x139⟩ : journal_Journal).sure_), .bool ((⟨x130, x131, x132, x133, l134, x138, x139⟩ : journal_Journal).dead_)] 26, pt r43_b4 #[.pointer (some ⟨r28_b2, 0, none⟩), .int .i64 ((⟨x140, x141⟩ : guard_Guard).boot_), .int .i64 ((⟨x140, x141⟩ : guard_Guard).n_)] 72, pt r28_b2 #[.slice p143 ((⟨l142, l146, x149, x150, x151, (⟨x152, x153⟩ : disk_Fall), x154, x155⟩ : disk_Disk).sure_).length c144, .map (some b148), .bool ((⟨l142, l146, x149, x150, x151, (⟨x152, x153⟩ : disk_Fall), x154, x155⟩ : disk_Disk).off_), .bool ((⟨l142, l146, x149, x150, x151, (⟨x152, x153⟩ : disk_Fall), x154, x155⟩ : disk_Disk).armed_), .int .i64 ((⟨l142, l146, x149, x150, x151, (⟨x152, x153⟩ : disk_Fall), x154, x155⟩ : disk_Disk).left_), .int .u64 ((⟨l142, l146, x149, x150, x151, (⟨x152, x153⟩ : disk_Fall), x154, x155⟩ : disk_Disk).fall_.Keep), .int .i64 ((⟨l142, l146, x149, x150, x151, (⟨x152, x153⟩ : disk_Fall), x154, x155⟩ : disk_Disk).fall_.Tear), .int .i64 ((⟨l142, l146, x149, x150, x151, (⟨x152, x153⟩ : disk_Fall), x154, x155⟩ : disk_Disk).acts_), .int .i64 ((⟨l142, l146, x149, x150, x151, (⟨x152, x153⟩ : disk_Fall), x154, x155⟩ : disk_Disk).falls_)] 62, pt r38_b2 #[.pointer (some ⟨r28_b2, 0, none⟩), .int .i64 r38_s1.boot_, .int .i64 r38_s1.n_] 72, own eStr 9 p135 c136 ((⟨x130, x131, x132, x133, l134, x138, x139⟩ : journal_Journal).list_), own e_disk_sector 65 p143 c144 ((⟨l142, l146, x149, x150, x151, (⟨x152, x153⟩ : disk_Fall), x154, x155⟩ : disk_Disk).sure_), mpo (kInt .i64) (fun x : disk_sector => Value.agg #[.string x.s_, .int .i64 x.at_]) b148 ((⟨l142, l146, x149, x150, x151, (⟨x152, x153⟩ : disk_Fall), x154, x155⟩ : disk_Disk).wait_)] ++ F0) rfl (nw_ow ?_)
            refine ow_vals 2 (j := 32) [10] [(10, .bool r205)] rfl (by kernel_rfl) ?_
            refine ow_end rfl ?_
            refine ew_then ?_
            refine cw_ret ?_
            have hR := Option.some.inj hF
            subst hR
            exact fin1 (H1 := [imm I]) (fun w hs => sat_to [1, 1, 1, 1, 1, 1, 1, 1, 1, 0] 9 rfl hs) rfl (rr_tmp rfl) ⟨rfl, rfl⟩
          refine ow_slots (L' := [(163, .bool false)]) (by rw [h204]) ?_
          refine ow_vals 3 (j := 32) [10] [(10, .bool false)] rfl (by kernel_rfl) ?_
          refine ow_end rfl ?_
          refine ew_then ?_
          refine cw_ret ?_
          have hR := Option.some.inj hF
          subst hR
          exact fin1 (H1 := [imm I]) (fun w hs => sat_to [1, 1, 1, 1, 1, 1, 1, 1, 1, 0] 9 rfl hs) rfl (rr_tmp rfl) ⟨rfl, rfl⟩
        refine ow_slots (L' := [(2, .int .i64 x2), (16, .pointer none), (154, .bool false)]) (by rw [h199]) ?_
        refine ow_vals 12 (j := 32) [10] [(10, .bool false)] rfl (by kernel_rfl) ?_
        refine ow_end rfl ?_
        refine ew_then ?_
        refine cw_ret ?_
        have hR := Option.some.inj hF
        subst hR
        exact fin1 (H1 := [imm I]) (fun w hs => sat_to [1, 1, 1, 1, 1, 1, 1, 1, 1, 0] 9 rfl hs) rfl (rr_tmp rfl) ⟨rfl, rfl⟩
      refine ow_slots (L' := [(2, .int .i64 x2), (16, .pointer none), (20, .bool x190), (145, .bool false)]) (by rw [h195]) ?_
      refine ow_vals 21 (j := 32) [10] [(10, .bool false)] rfl (by kernel_rfl) ?_
      refine ow_end rfl ?_
      refine ew_then ?_
      refine cw_ret ?_
      have hR := Option.some.inj hF
      subst hR
      exact fin1 (H1 := [imm I]) (fun w hs => sat_to [1, 1, 1, 1, 1, 1, 1, 1, 0] 8 rfl hs) rfl (rr_tmp rfl) ⟨rfl, rfl⟩
    refine ow_slots (L' := [(2, .int .i64 x2), (16, .pointer none), (20, .bool x190), (137, .bool false)]) (by rw [h191]) ?_
    refine ow_vals 29 (j := 32) [10] [(10, .bool false)] rfl (by kernel_rfl) ?_
    refine ow_end rfl ?_
    refine ew_then ?_
    refine cw_ret ?_
    have hR := Option.some.inj hF
    subst hR
    exact fin1 (H1 := [imm I]) (fun w hs => sat_to [1, 1, 1, 1, 1, 1, 1, 0] 7 rfl hs) rfl (rr_tmp rfl) ⟨rfl, rfl⟩
  rw [hO] at hF
  try dsimp only [optC] at hF
  refine nw_H (H' := [imm I, pt r38_b2 #[.pointer (some ⟨r28_b2, 0, none⟩), .int .i64 r38_s1.boot_, .int .i64 r38_s1.n_] 72, pt r28_b2 #[.slice p143 ((⟨l142, l146, x149, x150, x151, (⟨x152, x153⟩ : disk_Fall), x154, x155⟩ : disk_Disk).sure_).length c144, .map (some b148), .bool ((⟨l142, l146, x149, x150, x151, (⟨x152, x153⟩ : disk_Fall), x154, x155⟩ : disk_Disk).off_), .bool ((⟨l142, l146, x149, x150, x151, (⟨x152, x153⟩ : disk_Fall), x154, x155⟩ : disk_Disk).armed_), .int .i64 ((⟨l142, l146, x149, x150, x151, (⟨x152, x153⟩ : disk_Fall), x154, x155⟩ : disk_Disk).left_), .int .u64 ((⟨l142, l146, x149, x150, x151, (⟨x152, x153⟩ : disk_Fall), x154, x155⟩ : disk_Disk).fall_.Keep), .int .i64 ((⟨l142, l146, x149, x150, x151, (⟨x152, x153⟩ : disk_Fall), x154, x155⟩ : disk_Disk).fall_.Tear), .int .i64 ((⟨l142, l146, x149, x150, x151, (⟨x152, x153⟩ : disk_Fall), x154, x155⟩ : disk_Disk).acts_), .int .i64 ((⟨l142, l146, x149, x150, x151, (⟨x152, x153⟩ : disk_Fall), x154, x155⟩ : disk_Disk).falls_)] 62, pt r156_b2 #[.pointer (some ⟨r38_b2, 0, none⟩), .int .i64 r156_s1.base_, .int .i64 r156_s1.size_, .int .i64 r156_s1.next_, .int .i64 r156_s1.last_, .slice r156_p4 r156_s1.list_.length r156_c5, .int .i64 r156_s1.sure_, .bool r156_s1.dead_] 26, own eStr 9 r156_p4 r156_c5 r156_s1.list_, own e_disk_sector 65 p143 c144 ((⟨l142, l146, x149, x150, x151, (⟨x152, x153⟩ : disk_Fall), x154, x155⟩ : disk_Disk).sure_), mpo (kInt .i64) (fun x : disk_sector => Value.agg #[.string x.s_, .int .i64 x.at_]) b148 ((⟨l142, l146, x149, x150, x151, (⟨x152, x153⟩ : disk_Fall), x154, x155⟩ : disk_Disk).wait_), pt r43_b2 #[.pointer (some ⟨r43_b4, 0, none⟩), .int .i64 x130, .int .i64 x131, .int .i64 x132, .int .i64 x133, .slice p135 l134.length c136, .int .i64 x138, .bool x139] 26, pt r43_b4 #[.pointer (some ⟨r28_b2, 0, none⟩), .int .i64 x140, .int .i64 x141] 72, own eStr 9 p135 c136 l134] ++ F0) rfl (nw_ow ?_)
  refine ow_vals 5 (j := 10) [0, 1, 2, 3, 15, 16, 17] [(0, .int .i64 x0), (1, .int .i64 x1), (2, .int .i64 x2), (3, .int .i64 x3), (15, .pointer (some ⟨r43_b2, 0, none⟩)), (16, .pointer (some ⟨r156_b2, 0, none⟩)), (17, .int .i64 0)] rfl (by kernel_rfl) ?_
  refine ow_end rfl ?_
  refine ew_then ?_
  refine cw_seq ?_
  refine cw_region ?_
  refine ow_vals 3 (j := 3) [0, 1, 2, 3, 15, 16, 17, 60, 61, 62] [(0, .int .i64 x0), (1, .int .i64 x1), (2, .int .i64 x2), (3, .int .i64 x3), (15, .pointer (some ⟨r43_b2, 0, none⟩)), (16, .pointer (some ⟨r156_b2, 0, none⟩)), (17, .int .i64 0), (60, .int .i64 x1), (61, .int .i64 x2), (62, .int .i64 x3)] rfl (by kernel_rfl) ?_
  obtain ⟨r207, h208, hF⟩ := bind_some hF
  refine ow_pw rfl (pw_call (F := [pt r38_b2 #[.pointer (some ⟨r28_b2, 0, none⟩), .int .i64 r38_s1.boot_, .int .i64 r38_s1.n_] 72, pt r28_b2 #[.slice p143 ((⟨l142, l146, x149, x150, x151, (⟨x152, x153⟩ : disk_Fall), x154, x155⟩ : disk_Disk).sure_).length c144, .map (some b148), .bool ((⟨l142, l146, x149, x150, x151, (⟨x152, x153⟩ : disk_Fall), x154, x155⟩ : disk_Disk).off_), .bool ((⟨l142, l146, x149, x150, x151, (⟨x152, x153⟩ : disk_Fall), x154, x155⟩ : disk_Disk).armed_), .int .i64 ((⟨l142, l146, x149, x150, x151, (⟨x152, x153⟩ : disk_Fall), x154, x155⟩ : disk_Disk).left_), .int .u64 ((⟨l142, l146, x149, x150, x151, (⟨x152, x153⟩ : disk_Fall), x154, x155⟩ : disk_Disk).fall_.Keep), .int .i64 ((⟨l142, l146, x149, x150, x151, (⟨x152, x153⟩ : disk_Fall), x154, x155⟩ : disk_Disk).fall_.Tear), .int .i64 ((⟨l142, l146, x149, x150, x151, (⟨x152, x153⟩ : disk_Fall), x154, x155⟩ : disk_Disk).acts_), .int .i64 ((⟨l142, l146, x149, x150, x151, (⟨x152, x153⟩ : disk_Fall), x154, x155⟩ : disk_Disk).falls_)] 62, pt r156_b2 #[.pointer (some ⟨r38_b2, 0, none⟩), .int .i64 r156_s1.base_, .int .i64 r156_s1.size_, .int .i64 r156_s1.next_, .int .i64 r156_s1.last_, .slice r156_p4 r156_s1.list_.length r156_c5, .int .i64 r156_s1.sure_, .bool r156_s1.dead_] 26, own eStr 9 r156_p4 r156_c5 r156_s1.list_, own e_disk_sector 65 p143 c144 ((⟨l142, l146, x149, x150, x151, (⟨x152, x153⟩ : disk_Fall), x154, x155⟩ : disk_Disk).sure_), mpo (kInt .i64) (fun x : disk_sector => Value.agg #[.string x.s_, .int .i64 x.at_]) b148 ((⟨l142, l146, x149, x150, x151, (⟨x152, x153⟩ : disk_Fall), x154, x155⟩ : disk_Disk).wait_), pt r43_b2 #[.pointer (some ⟨r43_b4, 0, none⟩), .int .i64 x130, .int .i64 x131, .int .i64 x132, .int .i64 x133, .slice p135 l134.length c136, .int .i64 x138, .bool x139] 26, pt r43_b4 #[.pointer (some ⟨r28_b2, 0, none⟩), .int .i64 x140, .int .i64 x141] 72, own eStr 9 p135 c136 l134] ++ F0) rfl rfl rfl rfl rfl rfl rfl (by kernel_rfl) (perm_of_pulls [0] rfl) (c_journal_Open_1 _ x1 x2 x3 r207 h208) ?_)
  rintro _ _ ⟨rfl, rfl⟩
  refine nw_H (H' := [imm I, pt r38_b2 #[.pointer (some ⟨r28_b2, 0, none⟩), .int .i64 r38_s1.boot_, .int .i64 r38_s1.n_] 72, pt r28_b2 #[.slice p143 ((⟨l142, l146, x149, x150, x151, (⟨x152, x153⟩ : disk_Fall), x154, x155⟩ : disk_Disk).sure_).length c144, .map (some b148), .bool ((⟨l142, l146, x149, x150, x151, (⟨x152, x153⟩ : disk_Fall), x154, x155⟩ : disk_Disk).off_), .bool ((⟨l142, l146, x149, x150, x151, (⟨x152, x153⟩ : disk_Fall), x154, x155⟩ : disk_Disk).armed_), .int .i64 ((⟨l142, l146, x149, x150, x151, (⟨x152, x153⟩ : disk_Fall), x154, x155⟩ : disk_Disk).left_), .int .u64 ((⟨l142, l146, x149, x150, x151, (⟨x152, x153⟩ : disk_Fall), x154, x155⟩ : disk_Disk).fall_.Keep), .int .i64 ((⟨l142, l146, x149, x150, x151, (⟨x152, x153⟩ : disk_Fall), x154, x155⟩ : disk_Disk).fall_.Tear), .int .i64 ((⟨l142, l146, x149, x150, x151, (⟨x152, x153⟩ : disk_Fall), x154, x155⟩ : disk_Disk).acts_), .int .i64 ((⟨l142, l146, x149, x150, x151, (⟨x152, x153⟩ : disk_Fall), x154, x155⟩ : disk_Disk).falls_)] 62, pt r156_b2 #[.pointer (some ⟨r38_b2, 0, none⟩), .int .i64 r156_s1.base_, .int .i64 r156_s1.size_, .int .i64 r156_s1.next_, .int .i64 r156_s1.last_, .slice r156_p4 r156_s1.list_.length r156_c5, .int .i64 r156_s1.sure_, .bool r156_s1.dead_] 26, own eStr 9 r156_p4 r156_c5 r156_s1.list_, own e_disk_sector 65 p143 c144 ((⟨l142, l146, x149, x150, x151, (⟨x152, x153⟩ : disk_Fall), x154, x155⟩ : disk_Disk).sure_), mpo (kInt .i64) (fun x : disk_sector => Value.agg #[.string x.s_, .int .i64 x.at_]) b148 ((⟨l142, l146, x149, x150, x151, (⟨x152, x153⟩ : disk_Fall), x154, x155⟩ : disk_Disk).wait_), pt r43_b2 #[.pointer (some ⟨r43_b4, 0, none⟩), .int .i64 x130, .int .i64 x131, .int .i64 x132, .int .i64 x133, .slice p135 l134.length c136, .int .i64 x138, .bool x139] 26, pt r43_b4 #[.pointer (some ⟨r28_b2, 0, none⟩), .int .i64 x140, .int .i64 x141] 72, own eStr 9 p135 c136 l134] ++ F0) rfl (nw_ow ?_)
  refine ow_vals 5 (j := 9) [0, 1, 2, 3, 15, 16, 17, 18, 19] [(0, .int .i64 x0), (1, .int .i64 x1), (2, .int .i64 x2), (3, .int .i64 x3), (15, .pointer (some ⟨r43_b2, 0, none⟩)), (16, .pointer (some ⟨r156_b2, 0, none⟩)), (17, .int .i64 0), (18, .pointer none), (19, .int .i64 r207)] rfl (by kernel_rfl) ?_
  refine ow_end rfl ?_
  refine ew_then ?_
  obtain ⟨v209, hF, hK209⟩ := thru_some hF
  refine cw_mid (fun a w => .inl () = v209 ∧ Fr 166 [(0, .int .i64 x0), (1, .int .i64 x1), (2, .int .i64 x2), (3, .int .i64 x3), (15, .pointer (some ⟨r43_b2, 0, none⟩)), (16, .pointer (some ⟨r156_b2, 0, none⟩)), (17, .int .i64 0)] a ∧ SAT w0 ([imm I, pt r38_b2 #[.pointer (some ⟨r28_b2, 0, none⟩), .int .i64 r38_s1.boot_, .int .i64 r38_s1.n_] 72, pt r28_b2 #[.slice p143 ((⟨l142, l146, x149, x150, x151, (⟨x152, x153⟩ : disk_Fall), x154, x155⟩ : disk_Disk).sure_).length c144, .map (some b148), .bool ((⟨l142, l146, x149, x150, x151, (⟨x152, x153⟩ : disk_Fall), x154, x155⟩ : disk_Disk).off_), .bool ((⟨l142, l146, x149, x150, x151, (⟨x152, x153⟩ : disk_Fall), x154, x155⟩ : disk_Disk).armed_), .int .i64 ((⟨l142, l146, x149, x150, x151, (⟨x152, x153⟩ : disk_Fall), x154, x155⟩ : disk_Disk).left_), .int .u64 ((⟨l142, l146, x149, x150, x151, (⟨x152, x153⟩ : disk_Fall), x154, x155⟩ : disk_Disk).fall_.Keep), .int .i64 ((⟨l142, l146, x149, x150, x151, (⟨x152, x153⟩ : disk_Fall), x154, x155⟩ : disk_Disk).fall_.Tear), .int .i64 ((⟨l142, l146, x149, x150, x151, (⟨x152, x153⟩ : disk_Fall), x154, x155⟩ : disk_Disk).acts_), .int .i64 ((⟨l142, l146, x149, x150, x151, (⟨x152, x153⟩ : disk_Fall), x154, x155⟩ : disk_Disk).falls_)] 62, pt r156_b2 #[.pointer (some ⟨r38_b2, 0, none⟩), .int .i64 r156_s1.base_, .int .i64 r156_s1.size_, .int .i64 r156_s1.next_, .int .i64 r156_s1.last_, .slice r156_p4 r156_s1.list_.length r156_c5, .int .i64 r156_s1.sure_, .bool r156_s1.dead_] 26, pt r43_b2 #[.pointer (some ⟨r43_b4, 0, none⟩), .int .i64 x130, .int .i64 x131, .int .i64 x132, .int .i64 x133, .slice p135 l134.length c136, .int .i64 x138, .bool x139] 26, pt r43_b4 #[.pointer (some ⟨r28_b2, 0, none⟩), .int .i64 x140, .int .i64 x141] 72, own e_disk_sector 65 p143 c144 ((⟨l142, l146, x149, x150, x151, (⟨x152, x153⟩ : disk_Fall), x154, x155⟩ : disk_Disk).sure_), mpo (kInt .i64) (fun x : disk_sector => Value.agg #[.string x.s_, .int .i64 x.at_]) b148 ((⟨l142, l146, x149, x150, x151, (⟨x152, x153⟩ : disk_Fall), x154, x155⟩ : disk_Disk).wait_), own eStr 9 r156_p4 r156_c5 r156_s1.list_, own eStr 9 p135 c136 l134] ++ F0) w) ?_ ?_
  · refine cw_seq ?_
    refine cw_region ?_
    refine ow_vals 6 (j := 6) [0, 1, 2, 3, 15, 16, 17, 71] [(0, .int .i64 x0), (1, .int .i64 x1), (2, .int .i64 x2), (3, .int .i64 x3), (15, .pointer (some ⟨r43_b2, 0, none⟩)), (16, .pointer (some ⟨r156_b2, 0, none⟩)), (17, .int .i64 0), (71, .bool (r207 != 1))] rfl (by kernel_rfl) ?_
    refine ow_end rfl ?_
    refine ew_then ?_
    rcases if_some hF with ⟨h210, hF⟩ | ⟨h210, hF⟩
    · refine cw_cond_t rfl rfl h210 ?_
      refine cw_seq ?_
      refine cw_region ?_
      refine ow_vals 1 (j := 1) [10] [(10, .bool false)] rfl (by kernel_rfl) ?_
      refine ow_end rfl ?_
      refine ew_then ?_
      refine cw_ret ?_
      refine ew_then_ret ?_
      have hR := Option.some.inj hF
      subst hR
      have hR := hK209
      try dsimp only [Thru] at hR
      subst hR
      exact fin1 (H1 := [imm I]) (fun w hs => sat_to [1, 1, 1, 1, 1, 1, 1, 1, 1, 0] 9 rfl hs) rfl (rr_tmp rfl) ⟨rfl, rfl⟩
    refine cw_cond_f rfl rfl h210 ?_
    refine cw_skip ?_
    have hR := Option.some.inj hF
    exact fun a w hf hs => ⟨hR, hf.keep [0, 1, 2, 3, 15, 16, 17], sat_to [0, 0, 0, 0, 3, 3, 1, 1, 0, 0] 0 rfl hs⟩
  rintro a w ⟨hv, hf, hs⟩
  subst hv
  replace hF := hK209
  clear hK209
  try dsimp only [Thru] at hF
  revert a w
  show CW _ _ _ 166 [(0, .int .i64 x0), (1, .int .i64 x1), (2, .int .i64 x2), (3, .int .i64 x3), (15, .pointer (some ⟨r43_b2, 0, none⟩)), (16, .pointer (some ⟨r156_b2, 0, none⟩)), (17, .int .i64 0)] (SAT w0 ([imm I, pt r38_b2 #[.pointer (some ⟨r28_b2, 0, none⟩), .int .i64 r38_s1.boot_, .int .i64 r38_s1.n_] 72, pt r28_b2 #[.slice p143 ((⟨l142, l146, x149, x150, x151, (⟨x152, x153⟩ : disk_Fall), x154, x155⟩ : disk_Disk).sure_).length c144, .map (some b148), .bool ((⟨l142, l146, x149, x150, x151, (⟨x152, x153⟩ : disk_Fall), x154, x155⟩ : disk_Disk).off_), .bool ((⟨l142, l146, x149, x150, x151, (⟨x152, x153⟩ : disk_Fall), x154, x155⟩ : disk_Disk).armed_), .int .i64 ((⟨l142, l146, x149, x150, x151, (⟨x152, x153⟩ : disk_Fall), x154, x155⟩ : disk_Disk).left_), .int .u64 ((⟨l142, l146, x149, x150, x151, (⟨x152, x153⟩ : disk_Fall), x154, x155⟩ : disk_Disk).fall_.Keep), .int .i64 ((⟨l142, l146, x149, x150, x151, (⟨x152, x153⟩ : disk_Fall), x154, x155⟩ : disk_Disk).fall_.Tear), .int .i64 ((⟨l142, l146, x149, x150, x151, (⟨x152, x153⟩ : disk_Fall), x154, x155⟩ : disk_Disk).acts_), .int .i64 ((⟨l142, l146, x149, x150, x151, (⟨x152, x153⟩ : disk_Fall), x154, x155⟩ : disk_Disk).falls_)] 62, pt r156_b2 #[.pointer (some ⟨r38_b2, 0, none⟩), .int .i64 r156_s1.base_, .int .i64 r156_s1.size_, .int .i64 r156_s1.next_, .int .i64 r156_s1.last_, .slice r156_p4 r156_s1.list_.length r156_c5, .int .i64 r156_s1.sure_, .bool r156_s1.dead_] 26, pt r43_b2 #[.pointer (some ⟨r43_b4, 0, none⟩), .int .i64 x130, .int .i64 x131, .int .i64 x132, .int .i64 x133, .slice p135 l134.length c136, .int .i64 x138, .bool x139] 26, pt r43_b4 #[.pointer (some ⟨r28_b2, 0, none⟩), .int .i64 x140, .int .i64 x141] 72, own e_disk_sector 65 p143 c144 ((⟨l142, l146, x149, x150, x151, (⟨x152, x153⟩ : disk_Fall), x154, x155⟩ : disk_Disk).sure_), mpo (kInt .i64) (fun x : disk_sector => Value.agg #[.string x.s_, .int .i64 x.at_]) b148 ((⟨l142, l146, x149, x150, x151, (⟨x152, x153⟩ : disk_Fall), x154, x155⟩ : disk_Disk).wait_), own eStr 9 r156_p4 r156_c5 r156_s1.list_, own eStr 9 p135 c136 l134] ++ F0))
  unfold F.law12_JournalOpens.r23 at hF
  obtain ⟨v211, hF, hK211⟩ := thru_some hF
  refine cw_mid (fun a w => .inl () = v211 ∧ Fr 166 [(0, .int .i64 x0), (1, .int .i64 x1), (2, .int .i64 x2), (3, .int .i64 x3), (15, .pointer (some ⟨r43_b2, 0, none⟩)), (16, .pointer (some ⟨r156_b2, 0, none⟩)), (17, .int .i64 0)] a ∧ SAT w0 ([imm I, pt r38_b2 #[.pointer (some ⟨r28_b2, 0, none⟩), .int .i64 r38_s1.boot_, .int .i64 r38_s1.n_] 72, pt r28_b2 #[.slice p143 ((⟨l142, l146, x149, x150, x151, (⟨x152, x153⟩ : disk_Fall), x154, x155⟩ : disk_Disk).sure_).length c144, .map (some b148), .bool ((⟨l142, l146, x149, x150, x151, (⟨x152, x153⟩ : disk_Fall), x154, x155⟩ : disk_Disk).off_), .bool ((⟨l142, l146, x149, x150, x151, (⟨x152, x153⟩ : disk_Fall), x154, x155⟩ : disk_Disk).armed_), .int .i64 ((⟨l142, l146, x149, x150, x151, (⟨x152, x153⟩ : disk_Fall), x154, x155⟩ : disk_Disk).left_), .int .u64 ((⟨l142, l146, x149, x150, x151, (⟨x152, x153⟩ : disk_Fall), x154, x155⟩ : disk_Disk).fall_.Keep), .int .i64 ((⟨l142, l146, x149, x150, x151, (⟨x152, x153⟩ : disk_Fall), x154, x155⟩ : disk_Disk).fall_.Tear), .int .i64 ((⟨l142, l146, x149, x150, x151, (⟨x152, x153⟩ : disk_Fall), x154, x155⟩ : disk_Disk).acts_), .int .i64 ((⟨l142, l146, x149, x150, x151, (⟨x152, x153⟩ : disk_Fall), x154, x155⟩ : disk_Disk).falls_)] 62, pt r156_b2 #[.pointer (some ⟨r38_b2, 0, none⟩), .int .i64 r156_s1.base_, .int .i64 r156_s1.size_, .int .i64 r156_s1.next_, .int .i64 r156_s1.last_, .slice r156_p4 r156_s1.list_.length r156_c5, .int .i64 r156_s1.sure_, .bool r156_s1.dead_] 26, pt r43_b2 #[.pointer (some ⟨r43_b4, 0, none⟩), .int .i64 x130, .int .i64 x131, .int .i64 x132, .int .i64 x133, .slice p135 l134.length c136, .int .i64 x138, .bool x139] 26, pt r43_b4 #[.pointer (some ⟨r28_b2, 0, none⟩), .int .i64 x140, .int .i64 x141] 72, own e_disk_sector 65 p143 c144 ((⟨l142, l146, x149, x150, x151, (⟨x152, x153⟩ : disk_Fall), x154, x155⟩ : disk_Disk).sure_), mpo (kInt .i64) (fun x : disk_sector => Value.agg #[.string x.s_, .int .i64 x.at_]) b148 ((⟨l142, l146, x149, x150, x151, (⟨x152, x153⟩ : disk_Fall), x154, x155⟩ : disk_Disk).wait_), own eStr 9 r156_p4 r156_c5 r156_s1.list_, own eStr 9 p135 c136 l134] ++ F0) w) ?_ ?_
  · obtain ⟨v212, hF, hK212⟩ := bind_some hF
    refine cw_mid (fun a w => ∃ (x216 : Bool), x216 = v212 ∧ Fr 166 [(0, .int .i64 x0), (1, .int .i64 x1), (2, .int .i64 x2), (3, .int .i64 x3), (15, .pointer (some ⟨r43_b2, 0, none⟩)), (16, .pointer (some ⟨r156_b2, 0, none⟩)), (17, .int .i64 0), (85, .bool x216)] a ∧ SAT w0 ([imm I, pt r38_b2 #[.pointer (some ⟨r28_b2, 0, none⟩), .int .i64 r38_s1.boot_, .int .i64 r38_s1.n_] 72, pt r28_b2 #[.slice p143 ((⟨l142, l146, x149, x150, x151, (⟨x152, x153⟩ : disk_Fall), x154, x155⟩ : disk_Disk).sure_).length c144, .map (some b148), .bool ((⟨l142, l146, x149, x150, x151, (⟨x152, x153⟩ : disk_Fall), x154, x155⟩ : disk_Disk).off_), .bool ((⟨l142, l146, x149, x150, x151, (⟨x152, x153⟩ : disk_Fall), x154, x155⟩ : disk_Disk).armed_), .int .i64 ((⟨l142, l146, x149, x150, x151, (⟨x152, x153⟩ : disk_Fall), x154, x155⟩ : disk_Disk).left_), .int .u64 ((⟨l142, l146, x149, x150, x151, (⟨x152, x153⟩ : disk_Fall), x154, x155⟩ : disk_Disk).fall_.Keep), .int .i64 ((⟨l142, l146, x149, x150, x151, (⟨x152, x153⟩ : disk_Fall), x154, x155⟩ : disk_Disk).fall_.Tear), .int .i64 ((⟨l142, l146, x149, x150, x151, (⟨x152, x153⟩ : disk_Fall), x154, x155⟩ : disk_Disk).acts_), .int .i64 ((⟨l142, l146, x149, x150, x151, (⟨x152, x153⟩ : disk_Fall), x154, x155⟩ : disk_Disk).falls_)] 62, pt r156_b2 #[.pointer (some ⟨r38_b2, 0, none⟩), .int .i64 r156_s1.base_, .int .i64 r156_s1.size_, .int .i64 r156_s1.next_, .int .i64 r156_s1.last_, .slice r156_p4 r156_s1.list_.length r156_c5, .int .i64 r156_s1.sure_, .bool r156_s1.dead_] 26, pt r43_b2 #[.pointer (some ⟨r43_b4, 0, none⟩), .int .i64 x130, .int .i64 x131, .int .i64 x132, .int .i64 x133, .slice p135 l134.length c136, .int .i64 x138, .bool x139] 26, pt r43_b4 #[.pointer (some ⟨r28_b2, 0, none⟩), .int .i64 x140, .int .i64 x141] 72, own e_disk_sector 65 p143 c144 ((⟨l142, l146, x149, x150, x151, (⟨x152, x153⟩ : disk_Fall), x154, x155⟩ : disk_Disk).sure_), mpo (kInt .i64) (fun x : disk_sector => Value.agg #[.string x.s_, .int .i64 x.at_]) b148 ((⟨l142, l146, x149, x150, x151, (⟨x152, x153⟩ : disk_Fall), x154, x155⟩ : disk_Disk).wait_), own eStr 9 r156_p4 r156_c5 r156_s1.list_, own eStr 9 p135 c136 l134] ++ F0) w) ?_ ?_
    · refine cw_region ?_
      refine ow_vals 3 (j := 3) [0, 1, 2, 3, 15, 16, 17, 74] [(0, .int .i64 x0), (1, .int .i64 x1), (2, .int .i64 x2), (3, .int .i64 x3), (15, .pointer (some ⟨r43_b2, 0, none⟩)), (16, .pointer (some ⟨r156_b2, 0, none⟩)), (17, .int .i64 0), (74, .bool (decide (x1 < 0)))] rfl (by kernel_rfl) ?_
      rcases if_some hF with ⟨h213, hF⟩ | ⟨h213, hF⟩
      · refine ow_slots (L' := [(0, .int .i64 x0), (1, .int .i64 x1), (2, .int .i64 x2), (3, .int .i64 x3), (15, .pointer (some ⟨r43_b2, 0, none⟩)), (16, .pointer (some ⟨r156_b2, 0, none⟩)), (17, .int .i64 0), (74, .bool true)]) (by rw [h213]) ?_
        refine ow_vals 11 (j := 14) [0, 1, 2, 3, 15, 16, 17, 85] [(0, .int .i64 x0), (1, .int .i64 x1), (2, .int .i64 x2), (3, .int .i64 x3), (15, .pointer (some ⟨r43_b2, 0, none⟩)), (16, .pointer (some ⟨r156_b2, 0, none⟩)), (17, .int .i64 0), (85, .bool true)] rfl (by kernel_rfl) ?_
        refine ow_end rfl ?_
        have hR := Option.some.inj hF
        exact fun a w hf hs => ⟨true, hR, hf.keep [0, 1, 2, 3, 15, 16, 17, 85], sat_to [0, 0, 0, 0, 0, 0, 0, 0, 0, 0] 0 rfl hs⟩
      refine ow_slots (L' := [(0, .int .i64 x0), (1, .int .i64 x1), (2, .int .i64 x2), (3, .int .i64 x3), (15, .pointer (some ⟨r43_b2, 0, none⟩)), (16, .pointer (some ⟨r156_b2, 0, none⟩)), (17, .int .i64 0), (74, .bool false)]) (by rw [h213]) ?_
      refine ow_vals 4 (j := 7) [0, 1, 2, 3, 15, 16, 17, 78] [(0, .int .i64 x0), (1, .int .i64 x1), (2, .int .i64 x2), (3, .int .i64 x3), (15, .pointer (some ⟨r43_b2, 0, none⟩)), (16, .pointer (some ⟨r156_b2, 0, none⟩)), (17, .int .i64 0), (78, .bool (decide (x2 < 1)))] rfl (by kernel_rfl) ?_
      rcases if_some hF with ⟨h214, hF⟩ | ⟨h214, hF⟩
      · refine ow_slots (L' := [(0, .int .i64 x0), (1, .int .i64 x1), (2, .int .i64 x2), (3, .int .i64 x3), (15, .pointer (some ⟨r43_b2, 0, none⟩)), (16, .pointer (some ⟨r156_b2, 0, none⟩)), (17, .int .i64 0), (78, .bool true)]) (by rw [h214]) ?_
        refine ow_vals 7 (j := 14) [0, 1, 2, 3, 15, 16, 17, 85] [(0, .int .i64 x0), (1, .int .i64 x1), (2, .int .i64 x2), (3, .int .i64 x3), (15, .pointer (some ⟨r43_b2, 0, none⟩)), (16, .pointer (some ⟨r156_b2, 0, none⟩)), (17, .int .i64 0), (85, .bool true)] rfl (by kernel_rfl) ?_
        refine ow_end rfl ?_
        have hR := Option.some.inj hF
        exact fun a w hf hs => ⟨true, hR, hf.keep [0, 1, 2, 3, 15, 16, 17, 85], sat_to [0, 0, 0, 0, 0, 0, 0, 0, 0, 0] 0 rfl hs⟩
      refine ow_slots (L' := [(0, .int .i64 x0), (1, .int .i64 x1), (2, .int .i64 x2), (3, .int .i64 x3), (15, .pointer (some ⟨r43_b2, 0, none⟩)), (16, .pointer (some ⟨r156_b2, 0, none⟩)), (17, .int .i64 0), (78, .bool false)]) (by rw [h214]) ?_
      refine ow_vals 4 (j := 11) [0, 1, 2, 3, 15, 16, 17, 82] [(0, .int .i64 x0), (1, .int .i64 x1), (2, .int .i64 x2), (3, .int .i64 x3), (15, .pointer (some ⟨r43_b2, 0, none⟩)), (16, .pointer (some ⟨r156_b2, 0, none⟩)), (17, .int .i64 0), (82, .bool (decide (x3 < 1)))] rfl (by kernel_rfl) ?_
      rcases if_some hF with ⟨h215, hF⟩ | ⟨h215, hF⟩
      · refine ow_slots (L' := [(0, .int .i64 x0), (1, .int .i64 x1), (2, .int .i64 x2), (3, .int .i64 x3), (15, .pointer (some ⟨r43_b2, 0, none⟩)), (16, .pointer (some ⟨r156_b2, 0, none⟩)), (17, .int .i64 0), (82, .bool true)]) (by rw [h215]) ?_
        refine ow_vals 3 (j := 14) [0, 1, 2, 3, 15, 16, 17, 85] [(0, .int .i64 x0), (1, .int .i64 x1), (2, .int .i64 x2), (3, .int .i64 x3), (15, .pointer (some ⟨r43_b2, 0, none⟩)), (16, .pointer (some ⟨r156_b2, 0, none⟩)), (17, .int .i64 0), (85, .bool true)] rfl (by kernel_rfl) ?_
        refine ow_end rfl ?_
        have hR := Option.some.inj hF
        exact fun a w hf hs => ⟨true, hR, hf.keep [0, 1, 2, 3, 15, 16, 17, 85], sat_to [0, 0, 0, 0, 0, 0, 0, 0, 0, 0] 0 rfl hs⟩
      refine ow_slots (L' := [(0, .int .i64 x0), (1, .int .i64 x1), (2, .int .i64 x2), (3, .int .i64 x3), (15, .pointer (some ⟨r43_b2, 0, none⟩)), (16, .pointer (some ⟨r156_b2, 0, none⟩)), (17, .int .i64 0), (82, .bool false)]) (by rw [h215]) ?_
      refine ow_vals 3 (j := 14) [0, 1, 2, 3, 15, 16, 17, 85] [(0, .int .i64 x0), (1, .int .i64 x1), (2, .int .i64 x2), (3, .int .i64 x3), (15, .pointer (some ⟨r43_b2, 0, none⟩)), (16, .pointer (some ⟨r156_b2, 0, none⟩)), (17, .int .i64 0), (85, .bool (decide (x3 > 4294967295)))] rfl (by kernel_rfl) ?_
      refine ow_end rfl ?_
      have hR := Option.some.inj hF
      exact fun a w hf hs => ⟨decide (x3 > 4294967295), hR, hf.keep [0, 1, 2, 3, 15, 16, 17, 85], sat_to [0, 0, 0, 0, 0, 0, 0, 0, 0, 0] 0 rfl hs⟩
    rintro a w ⟨x216, hv, hf, hs⟩
    subst hv
    replace hF := hK212
    clear hK212
    try dsimp only at hF
    revert a w
    show CW _ _ _ 166 [(0, .int .i64 x0), (1, .int .i64 x1), (2, .int .i64 x2), (3, .int .i64 x3), (15, .pointer (some ⟨r43_b2, 0, none⟩)), (16, .pointer (some ⟨r156_b2, 0, none⟩)), (17, .int .i64 0), (85, .bool x216)] (SAT w0 ([imm I, pt r38_b2 #[.pointer (some ⟨r28_b2, 0, none⟩), .int .i64 r38_s1.boot_, .int .i64 r38_s1.n_] 72, pt r28_b2 #[.slice p143 ((⟨l142, l146, x149, x150, x151, (⟨x152, x153⟩ : disk_Fall), x154, x155⟩ : disk_Disk).sure_).length c144, .map (some b148), .bool ((⟨l142, l146, x149, x150, x151, (⟨x152, x153⟩ : disk_Fall), x154, x155⟩ : disk_Disk).off_), .bool ((⟨l142, l146, x149, x150, x151, (⟨x152, x153⟩ : disk_Fall), x154, x155⟩ : disk_Disk).armed_), .int .i64 ((⟨l142, l146, x149, x150, x151, (⟨x152, x153⟩ : disk_Fall), x154, x155⟩ : disk_Disk).left_), .int .u64 ((⟨l142, l146, x149, x150, x151, (⟨x152, x153⟩ : disk_Fall), x154, x155⟩ : disk_Disk).fall_.Keep), .int .i64 ((⟨l142, l146, x149, x150, x151, (⟨x152, x153⟩ : disk_Fall), x154, x155⟩ : disk_Disk).fall_.Tear), .int .i64 ((⟨l142, l146, x149, x150, x151, (⟨x152, x153⟩ : disk_Fall), x154, x155⟩ : disk_Disk).acts_), .int .i64 ((⟨l142, l146, x149, x150, x151, (⟨x152, x153⟩ : disk_Fall), x154, x155⟩ : disk_Disk).falls_)] 62, pt r156_b2 #[.pointer (some ⟨r38_b2, 0, none⟩), .int .i64 r156_s1.base_, .int .i64 r156_s1.size_, .int .i64 r156_s1.next_, .int .i64 r156_s1.last_, .slice r156_p4 r156_s1.list_.length r156_c5, .int .i64 r156_s1.sure_, .bool r156_s1.dead_] 26, pt r43_b2 #[.pointer (some ⟨r43_b4, 0, none⟩), .int .i64 x130, .int .i64 x131, .int .i64 x132, .int .i64 x133, .slice p135 l134.length c136, .int .i64 x138, .bool x139] 26, pt r43_b4 #[.pointer (some ⟨r28_b2, 0, none⟩), .int .i64 x140, .int .i64 x141] 72, own e_disk_sector 65 p143 c144 ((⟨l142, l146, x149, x150, x151, (⟨x152, x153⟩ : disk_Fall), x154, x155⟩ : disk_Disk).sure_), mpo (kInt .i64) (fun x : disk_sector => Value.agg #[.string x.s_, .int .i64 x.at_]) b148 ((⟨l142, l146, x149, x150, x151, (⟨x152, x153⟩ : disk_Fall), x154, x155⟩ : disk_Disk).wait_), own eStr 9 r156_p4 r156_c5 r156_s1.list_, own eStr 9 p135 c136 l134] ++ F0))
    unfold F.law12_JournalOpens.r24 at hF
    rcases if_some hF with ⟨h217, hF⟩ | ⟨h217, hF⟩
    · refine cw_cond_t rfl rfl h217 ?_
      refine cw_seq ?_
      refine cw_region ?_
      refine ow_vals 10 (j := 10) [10] [(10, .bool false)] rfl (by kernel_rfl) ?_
      refine ow_end rfl ?_
      refine ew_then ?_
      refine cw_ret ?_
      refine ew_then_ret ?_
      have hR := Option.some.inj hF
      subst hR
      have hR := hK211
      try dsimp only [Thru] at hR
      subst hR
      exact fin1 (H1 := [imm I]) (fun w hs => sat_to [1, 1, 1, 1, 1, 1, 1, 1, 1, 0] 9 rfl hs) rfl (rr_tmp rfl) ⟨rfl, rfl⟩
    refine cw_cond_f rfl rfl h217 ?_
    refine cw_skip ?_
    have hR := Option.some.inj hF
    exact fun a w hf hs => ⟨hR, hf.keep [0, 1, 2, 3, 15, 16, 17], sat_to [0, 0, 0, 0, 0, 0, 0, 0, 0, 0] 0 rfl hs⟩
  rintro a w ⟨hv, hf, hs⟩
  subst hv
  replace hF := hK211
  clear hK211
  try dsimp only [Thru] at hF
  revert a w
  show CW _ _ _ 166 [(0, .int .i64 x0), (1, .int .i64 x1), (2, .int .i64 x2), (3, .int .i64 x3), (15, .pointer (some ⟨r43_b2, 0, none⟩)), (16, .pointer (some ⟨r156_b2, 0, none⟩)), (17, .int .i64 0)] (SAT w0 ([imm I, pt r38_b2 #[.pointer (some ⟨r28_b2, 0, none⟩), .int .i64 r38_s1.boot_, .int .i64 r38_s1.n_] 72, pt r28_b2 #[.slice p143 ((⟨l142, l146, x149, x150, x151, (⟨x152, x153⟩ : disk_Fall), x154, x155⟩ : disk_Disk).sure_).length c144, .map (some b148), .bool ((⟨l142, l146, x149, x150, x151, (⟨x152, x153⟩ : disk_Fall), x154, x155⟩ : disk_Disk).off_), .bool ((⟨l142, l146, x149, x150, x151, (⟨x152, x153⟩ : disk_Fall), x154, x155⟩ : disk_Disk).armed_), .int .i64 ((⟨l142, l146, x149, x150, x151, (⟨x152, x153⟩ : disk_Fall), x154, x155⟩ : disk_Disk).left_), .int .u64 ((⟨l142, l146, x149, x150, x151, (⟨x152, x153⟩ : disk_Fall), x154, x155⟩ : disk_Disk).fall_.Keep), .int .i64 ((⟨l142, l146, x149, x150, x151, (⟨x152, x153⟩ : disk_Fall), x154, x155⟩ : disk_Disk).fall_.Tear), .int .i64 ((⟨l142, l146, x149, x150, x151, (⟨x152, x153⟩ : disk_Fall), x154, x155⟩ : disk_Disk).acts_), .int .i64 ((⟨l142, l146, x149, x150, x151, (⟨x152, x153⟩ : disk_Fall), x154, x155⟩ : disk_Disk).falls_)] 62, pt r156_b2 #[.pointer (some ⟨r38_b2, 0, none⟩), .int .i64 r156_s1.base_, .int .i64 r156_s1.size_, .int .i64 r156_s1.next_, .int .i64 r156_s1.last_, .slice r156_p4 r156_s1.list_.length r156_c5, .int .i64 r156_s1.sure_, .bool r156_s1.dead_] 26, pt r43_b2 #[.pointer (some ⟨r43_b4, 0, none⟩), .int .i64 x130, .int .i64 x131, .int .i64 x132, .int .i64 x133, .slice p135 l134.length c136, .int .i64 x138, .bool x139] 26, pt r43_b4 #[.pointer (some ⟨r28_b2, 0, none⟩), .int .i64 x140, .int .i64 x141] 72, own e_disk_sector 65 p143 c144 ((⟨l142, l146, x149, x150, x151, (⟨x152, x153⟩ : disk_Fall), x154, x155⟩ : disk_Disk).sure_), mpo (kInt .i64) (fun x : disk_sector => Value.agg #[.string x.s_, .int .i64 x.at_]) b148 ((⟨l142, l146, x149, x150, x151, (⟨x152, x153⟩ : disk_Fall), x154, x155⟩ : disk_Disk).wait_), own eStr 9 r156_p4 r156_c5 r156_s1.list_, own eStr 9 p135 c136 l134] ++ F0))
  unfold F.law12_JournalOpens.r25 at hF
  obtain ⟨v218, hF, hK218⟩ := thru_some hF
  refine cw_mid (fun a w => .inl () = v218 ∧ Fr 166 [(1, .int .i64 x1), (2, .int .i64 x2), (3, .int .i64 x3), (15, .pointer (some ⟨r43_b2, 0, none⟩)), (16, .pointer (some ⟨r156_b2, 0, none⟩)), (17, .int .i64 0)] a ∧ SAT w0 ([imm I, pt r38_b2 #[.pointer (some ⟨r28_b2, 0, none⟩), .int .i64 r38_s1.boot_, .int .i64 r38_s1.n_] 72, pt r28_b2 #[.slice p143 ((⟨l142, l146, x149, x150, x151, (⟨x152, x153⟩ : disk_Fall), x154, x155⟩ : disk_Disk).sure_).length c144, .map (some b148), .bool ((⟨l142, l146, x149, x150, x151, (⟨x152, x153⟩ : disk_Fall), x154, x155⟩ : disk_Disk).off_), .bool ((⟨l142, l146, x149, x150, x151, (⟨x152, x153⟩ : disk_Fall), x154, x155⟩ : disk_Disk).armed_), .int .i64 ((⟨l142, l146, x149, x150, x151, (⟨x152, x153⟩ : disk_Fall), x154, x155⟩ : disk_Disk).left_), .int .u64 ((⟨l142, l146, x149, x150, x151, (⟨x152, x153⟩ : disk_Fall), x154, x155⟩ : disk_Disk).fall_.Keep), .int .i64 ((⟨l142, l146, x149, x150, x151, (⟨x152, x153⟩ : disk_Fall), x154, x155⟩ : disk_Disk).fall_.Tear), .int .i64 ((⟨l142, l146, x149, x150, x151, (⟨x152, x153⟩ : disk_Fall), x154, x155⟩ : disk_Disk).acts_), .int .i64 ((⟨l142, l146, x149, x150, x151, (⟨x152, x153⟩ : disk_Fall), x154, x155⟩ : disk_Disk).falls_)] 62, pt r156_b2 #[.pointer (some ⟨r38_b2, 0, none⟩), .int .i64 r156_s1.base_, .int .i64 r156_s1.size_, .int .i64 r156_s1.next_, .int .i64 r156_s1.last_, .slice r156_p4 r156_s1.list_.length r156_c5, .int .i64 r156_s1.sure_, .bool r156_s1.dead_] 26, pt r43_b2 #[.pointer (some ⟨r43_b4, 0, none⟩), .int .i64 x130, .int .i64 x131, .int .i64 x132, .int .i64 x133, .slice p135 l134.length c136, .int .i64 x138, .bool x139] 26, pt r43_b4 #[.pointer (some ⟨r28_b2, 0, none⟩), .int .i64 x140, .int .i64 x141] 72, own e_disk_sector 65 p143 c144 ((⟨l142, l146, x149, x150, x151, (⟨x152, x153⟩ : disk_Fall), x154, x155⟩ : disk_Disk).sure_), mpo (kInt .i64) (fun x : disk_sector => Value.agg #[.string x.s_, .int .i64 x.at_]) b148 ((⟨l142, l146, x149, x150, x151, (⟨x152, x153⟩ : disk_Fall), x154, x155⟩ : disk_Disk).wait_), own eStr 9 r156_p4 r156_c5 r156_s1.list_, own eStr 9 p135 c136 l134] ++ F0) w) ?_ ?_
  · obtain ⟨v219, hF, hK219⟩ := bind_some hF
    refine cw_mid (fun a w => ∃ (x221 : Bool), x221 = v219 ∧ Fr 166 [(1, .int .i64 x1), (2, .int .i64 x2), (3, .int .i64 x3), (15, .pointer (some ⟨r43_b2, 0, none⟩)), (16, .pointer (some ⟨r156_b2, 0, none⟩)), (17, .int .i64 0), (104, .bool x221)] a ∧ SAT w0 ([imm I, pt r38_b2 #[.pointer (some ⟨r28_b2, 0, none⟩), .int .i64 r38_s1.boot_, .int .i64 r38_s1.n_] 72, pt r28_b2 #[.slice p143 ((⟨l142, l146, x149, x150, x151, (⟨x152, x153⟩ : disk_Fall), x154, x155⟩ : disk_Disk).sure_).length c144, .map (some b148), .bool ((⟨l142, l146, x149, x150, x151, (⟨x152, x153⟩ : disk_Fall), x154, x155⟩ : disk_Disk).off_), .bool ((⟨l142, l146, x149, x150, x151, (⟨x152, x153⟩ : disk_Fall), x154, x155⟩ : disk_Disk).armed_), .int .i64 ((⟨l142, l146, x149, x150, x151, (⟨x152, x153⟩ : disk_Fall), x154, x155⟩ : disk_Disk).left_), .int .u64 ((⟨l142, l146, x149, x150, x151, (⟨x152, x153⟩ : disk_Fall), x154, x155⟩ : disk_Disk).fall_.Keep), .int .i64 ((⟨l142, l146, x149, x150, x151, (⟨x152, x153⟩ : disk_Fall), x154, x155⟩ : disk_Disk).fall_.Tear), .int .i64 ((⟨l142, l146, x149, x150, x151, (⟨x152, x153⟩ : disk_Fall), x154, x155⟩ : disk_Disk).acts_), .int .i64 ((⟨l142, l146, x149, x150, x151, (⟨x152, x153⟩ : disk_Fall), x154, x155⟩ : disk_Disk).falls_)] 62, pt r156_b2 #[.pointer (some ⟨r38_b2, 0, none⟩), .int .i64 r156_s1.base_, .int .i64 r156_s1.size_, .int .i64 r156_s1.next_, .int .i64 r156_s1.last_, .slice r156_p4 r156_s1.list_.length r156_c5, .int .i64 r156_s1.sure_, .bool r156_s1.dead_] 26, pt r43_b2 #[.pointer (some ⟨r43_b4, 0, none⟩), .int .i64 x130, .int .i64 x131, .int .i64 x132, .int .i64 x133, .slice p135 l134.length c136, .int .i64 x138, .bool x139] 26, pt r43_b4 #[.pointer (some ⟨r28_b2, 0, none⟩), .int .i64 x140, .int .i64 x141] 72, own e_disk_sector 65 p143 c144 ((⟨l142, l146, x149, x150, x151, (⟨x152, x153⟩ : disk_Fall), x154, x155⟩ : disk_Disk).sure_), mpo (kInt .i64) (fun x : disk_sector => Value.agg #[.string x.s_, .int .i64 x.at_]) b148 ((⟨l142, l146, x149, x150, x151, (⟨x152, x153⟩ : disk_Fall), x154, x155⟩ : disk_Disk).wait_), own eStr 9 r156_p4 r156_c5 r156_s1.list_, own eStr 9 p135 c136 l134] ++ F0) w) ?_ ?_
    · refine cw_region ?_
      refine ow_vals 4 (j := 4) [0, 1, 2, 3, 15, 16, 17, 98] [(0, .int .i64 x0), (1, .int .i64 x1), (2, .int .i64 x2), (3, .int .i64 x3), (15, .pointer (some ⟨r43_b2, 0, none⟩)), (16, .pointer (some ⟨r156_b2, 0, none⟩)), (17, .int .i64 0), (98, .bool (decide (x1 > x0)))] rfl (by kernel_rfl) ?_
      rcases if_some hF with ⟨h220, hF⟩ | ⟨h220, hF⟩
      · refine ow_slots (L' := [(0, .int .i64 x0), (1, .int .i64 x1), (2, .int .i64 x2), (3, .int .i64 x3), (15, .pointer (some ⟨r43_b2, 0, none⟩)), (16, .pointer (some ⟨r156_b2, 0, none⟩)), (17, .int .i64 0), (98, .bool true)]) (by rw [h220]) ?_
        refine ow_vals 6 (j := 10) [1, 2, 3, 15, 16, 17, 104] [(1, .int .i64 x1), (2, .int .i64 x2), (3, .int .i64 x3), (15, .pointer (some ⟨r43_b2, 0, none⟩)), (16, .pointer (some ⟨r156_b2, 0, none⟩)), (17, .int .i64 0), (104, .bool true)] rfl (by kernel_rfl) ?_
        refine ow_end rfl ?_
        have hR := Option.some.inj hF
        exact fun a w hf hs => ⟨true, hR, hf.keep [1, 2, 3, 15, 16, 17, 104], sat_to [0, 0, 0, 0, 0, 0, 0, 0, 0, 0] 0 rfl hs⟩
      refine ow_slots (L' := [(0, .int .i64 x0), (1, .int .i64 x1), (2, .int .i64 x2), (3, .int .i64 x3), (15, .pointer (some ⟨r43_b2, 0, none⟩)), (16, .pointer (some ⟨r156_b2, 0, none⟩)), (17, .int .i64 0), (98, .bool false)]) (by rw [h220]) ?_
      refine ow_vals 6 (j := 10) [1, 2, 3, 15, 16, 17, 104] [(1, .int .i64 x1), (2, .int .i64 x2), (3, .int .i64 x3), (15, .pointer (some ⟨r43_b2, 0, none⟩)), (16, .pointer (some ⟨r156_b2, 0, none⟩)), (17, .int .i64 0), (104, .bool (decide (x2 > (IntKind.i64.wrap (x0 - x1)))))] rfl (by kernel_rfl) ?_
      refine ow_end rfl ?_
      have hR := Option.some.inj hF
      exact fun a w hf hs => ⟨decide (x2 > (IntKind.i64.wrap (x0 - x1))), hR, hf.keep [1, 2, 3, 15, 16, 17, 104], sat_to [0, 0, 0, 0, 0, 0, 0, 0, 0, 0] 0 rfl hs⟩
    rintro a w ⟨x221, hv, hf, hs⟩
    subst hv
    replace hF := hK219
    clear hK219
    try dsimp only at hF
    revert a w
    show CW _ _ _ 166 [(1, .int .i64 x1), (2, .int .i64 x2), (3, .int .i64 x3), (15, .pointer (some ⟨r43_b2, 0, none⟩)), (16, .pointer (some ⟨r156_b2, 0, none⟩)), (17, .int .i64 0), (104, .bool x221)] (SAT w0 ([imm I, pt r38_b2 #[.pointer (some ⟨r28_b2, 0, none⟩), .int .i64 r38_s1.boot_, .int .i64 r38_s1.n_] 72, pt r28_b2 #[.slice p143 ((⟨l142, l146, x149, x150, x151, (⟨x152, x153⟩ : disk_Fall), x154, x155⟩ : disk_Disk).sure_).length c144, .map (some b148), .bool ((⟨l142, l146, x149, x150, x151, (⟨x152, x153⟩ : disk_Fall), x154, x155⟩ : disk_Disk).off_), .bool ((⟨l142, l146, x149, x150, x151, (⟨x152, x153⟩ : disk_Fall), x154, x155⟩ : disk_Disk).armed_), .int .i64 ((⟨l142, l146, x149, x150, x151, (⟨x152, x153⟩ : disk_Fall), x154, x155⟩ : disk_Disk).left_), .int .u64 ((⟨l142, l146, x149, x150, x151, (⟨x152, x153⟩ : disk_Fall), x154, x155⟩ : disk_Disk).fall_.Keep), .int .i64 ((⟨l142, l146, x149, x150, x151, (⟨x152, x153⟩ : disk_Fall), x154, x155⟩ : disk_Disk).fall_.Tear), .int .i64 ((⟨l142, l146, x149, x150, x151, (⟨x152, x153⟩ : disk_Fall), x154, x155⟩ : disk_Disk).acts_), .int .i64 ((⟨l142, l146, x149, x150, x151, (⟨x152, x153⟩ : disk_Fall), x154, x155⟩ : disk_Disk).falls_)] 62, pt r156_b2 #[.pointer (some ⟨r38_b2, 0, none⟩), .int .i64 r156_s1.base_, .int .i64 r156_s1.size_, .int .i64 r156_s1.next_, .int .i64 r156_s1.last_, .slice r156_p4 r156_s1.list_.length r156_c5, .int .i64 r156_s1.sure_, .bool r156_s1.dead_] 26, pt r43_b2 #[.pointer (some ⟨r43_b4, 0, none⟩), .int .i64 x130, .int .i64 x131, .int .i64 x132, .int .i64 x133, .slice p135 l134.length c136, .int .i64 x138, .bool x139] 26, pt r43_b4 #[.pointer (some ⟨r28_b2, 0, none⟩), .int .i64 x140, .int .i64 x141] 72, own e_disk_sector 65 p143 c144 ((⟨l142, l146, x149, x150, x151, (⟨x152, x153⟩ : disk_Fall), x154, x155⟩ : disk_Disk).sure_), mpo (kInt .i64) (fun x : disk_sector => Value.agg #[.string x.s_, .int .i64 x.at_]) b148 ((⟨l142, l146, x149, x150, x151, (⟨x152, x153⟩ : disk_Fall), x154, x155⟩ : disk_Disk).wait_), own eStr 9 r156_p4 r156_c5 r156_s1.list_, own eStr 9 p135 c136 l134] ++ F0))
    unfold F.law12_JournalOpens.r26 at hF
    rcases if_some hF with ⟨h222, hF⟩ | ⟨h222, hF⟩
    · refine cw_cond_t rfl rfl h222 ?_
      refine cw_seq ?_
      refine cw_region ?_
      refine ow_vals 10 (j := 10) [10] [(10, .bool false)] rfl (by kernel_rfl) ?_
      refine ow_end rfl ?_
      refine ew_then ?_
      refine cw_ret ?_
      refine ew_then_ret ?_
      have hR := Option.some.inj hF
      subst hR
      have hR := hK218
      try dsimp only [Thru] at hR
      subst hR
      exact fin1 (H1 := [imm I]) (fun w hs => sat_to [1, 1, 1, 1, 1, 1, 1, 1, 1, 0] 9 rfl hs) rfl (rr_tmp rfl) ⟨rfl, rfl⟩
    refine cw_cond_f rfl rfl h222 ?_
    refine cw_skip ?_
    have hR := Option.some.inj hF
    exact fun a w hf hs => ⟨hR, hf.keep [1, 2, 3, 15, 16, 17], sat_to [0, 0, 0, 0, 0, 0, 0, 0, 0, 0] 0 rfl hs⟩
  rintro a w ⟨hv, hf, hs⟩
  subst hv
  replace hF := hK218
  clear hK218
  try dsimp only [Thru] at hF
  revert a w
  show CW _ _ _ 166 [(1, .int .i64 x1), (2, .int .i64 x2), (3, .int .i64 x3), (15, .pointer (some ⟨r43_b2, 0, none⟩)), (16, .pointer (some ⟨r156_b2, 0, none⟩)), (17, .int .i64 0)] (SAT w0 ([imm I, pt r38_b2 #[.pointer (some ⟨r28_b2, 0, none⟩), .int .i64 r38_s1.boot_, .int .i64 r38_s1.n_] 72, pt r28_b2 #[.slice p143 ((⟨l142, l146, x149, x150, x151, (⟨x152, x153⟩ : disk_Fall), x154, x155⟩ : disk_Disk).sure_).length c144, .map (some b148), .bool ((⟨l142, l146, x149, x150, x151, (⟨x152, x153⟩ : disk_Fall), x154, x155⟩ : disk_Disk).off_), .bool ((⟨l142, l146, x149, x150, x151, (⟨x152, x153⟩ : disk_Fall), x154, x155⟩ : disk_Disk).armed_), .int .i64 ((⟨l142, l146, x149, x150, x151, (⟨x152, x153⟩ : disk_Fall), x154, x155⟩ : disk_Disk).left_), .int .u64 ((⟨l142, l146, x149, x150, x151, (⟨x152, x153⟩ : disk_Fall), x154, x155⟩ : disk_Disk).fall_.Keep), .int .i64 ((⟨l142, l146, x149, x150, x151, (⟨x152, x153⟩ : disk_Fall), x154, x155⟩ : disk_Disk).fall_.Tear), .int .i64 ((⟨l142, l146, x149, x150, x151, (⟨x152, x153⟩ : disk_Fall), x154, x155⟩ : disk_Disk).acts_), .int .i64 ((⟨l142, l146, x149, x150, x151, (⟨x152, x153⟩ : disk_Fall), x154, x155⟩ : disk_Disk).falls_)] 62, pt r156_b2 #[.pointer (some ⟨r38_b2, 0, none⟩), .int .i64 r156_s1.base_, .int .i64 r156_s1.size_, .int .i64 r156_s1.next_, .int .i64 r156_s1.last_, .slice r156_p4 r156_s1.list_.length r156_c5, .int .i64 r156_s1.sure_, .bool r156_s1.dead_] 26, pt r43_b2 #[.pointer (some ⟨r43_b4, 0, none⟩), .int .i64 x130, .int .i64 x131, .int .i64 x132, .int .i64 x133, .slice p135 l134.length c136, .int .i64 x138, .bool x139] 26, pt r43_b4 #[.pointer (some ⟨r28_b2, 0, none⟩), .int .i64 x140, .int .i64 x141] 72, own e_disk_sector 65 p143 c144 ((⟨l142, l146, x149, x150, x151, (⟨x152, x153⟩ : disk_Fall), x154, x155⟩ : disk_Disk).sure_), mpo (kInt .i64) (fun x : disk_sector => Value.agg #[.string x.s_, .int .i64 x.at_]) b148 ((⟨l142, l146, x149, x150, x151, (⟨x152, x153⟩ : disk_Fall), x154, x155⟩ : disk_Disk).wait_), own eStr 9 r156_p4 r156_c5 r156_s1.list_, own eStr 9 p135 c136 l134] ++ F0))
  unfold F.law12_JournalOpens.r27 at hF
  obtain ⟨v223, hF, hK223⟩ := bind_some hF
  refine cw_mid (fun a w => ∃ (x231 : Bool), x231 = v223 ∧ Fr 166 [(2, .int .i64 x2), (16, .pointer (some ⟨r156_b2, 0, none⟩)), (17, .int .i64 0), (20, .bool x231)] a ∧ SAT w0 ([imm I, pt r43_b2 #[.pointer (some ⟨r43_b4, 0, none⟩), .int .i64 ((⟨x130, x131, x132, x133, l134, x138, x139⟩ : journal_Journal).base_), .int .i64 ((⟨x130, x131, x132, x133, l134, x138, x139⟩ : journal_Journal).size_), .int .i64 ((⟨x130, x131, x132, x133, l134, x138, x139⟩ : journal_Journal).next_), .int .i64 ((⟨x130, x131, x132, x133, l134, x138, x139⟩ : journal_Journal).last_), .slice p135 ((⟨x130, x131, x132, x133, l134, x138, x139⟩ : journal_Journal).list_).length c136, .int .i64 ((⟨x130, x131, x132, x133, l134, x138, x139⟩ : journal_Journal).sure_), .bool ((⟨x130, x131, x132, x133, l134, x138, x139⟩ : journal_Journal).dead_)] 26, pt r43_b4 #[.pointer (some ⟨r28_b2, 0, none⟩), .int .i64 ((⟨x140, x141⟩ : guard_Guard).boot_), .int .i64 ((⟨x140, x141⟩ : guard_Guard).n_)] 72, pt r28_b2 #[.slice p143 ((⟨l142, l146, x149, x150, x151, (⟨x152, x153⟩ : disk_Fall), x154, x155⟩ : disk_Disk).sure_).length c144, .map (some b148), .bool ((⟨l142, l146, x149, x150, x151, (⟨x152, x153⟩ : disk_Fall), x154, x155⟩ : disk_Disk).off_), .bool ((⟨l142, l146, x149, x150, x151, (⟨x152, x153⟩ : disk_Fall), x154, x155⟩ : disk_Disk).armed_), .int .i64 ((⟨l142, l146, x149, x150, x151, (⟨x152, x153⟩ : disk_Fall), x154, x155⟩ : disk_Disk).left_), .int .u64 ((⟨l142, l146, x149, x150, x151, (⟨x152, x153⟩ : disk_Fall), x154, x155⟩ : disk_Disk).fall_.Keep), .int .i64 ((⟨l142, l146, x149, x150, x151, (⟨x152, x153⟩ : disk_Fall), x154, x155⟩ : disk_Disk).fall_.Tear), .int .i64 ((⟨l142, l146, x149, x150, x151, (⟨x152, x153⟩ : disk_Fall), x154, x155⟩ : disk_Disk).acts_), .int .i64 ((⟨l142, l146, x149, x150, x151, (⟨x152, x153⟩ : disk_Fall), x154, x155⟩ : disk_Disk).falls_)] 62, pt r38_b2 #[.pointer (some ⟨r28_b2, 0, none⟩), .int .i64 r38_s1.boot_, .int .i64 r38_s1.n_] 72, pt r156_b2 #[.pointer (some ⟨r38_b2, 0, none⟩), .int .i64 r156_s1.base_, .int .i64 r156_s1.size_, .int .i64 r156_s1.next_, .int .i64 r156_s1.last_, .slice r156_p4 r156_s1.list_.length r156_c5, .int .i64 r156_s1.sure_, .bool r156_s1.dead_] 26, own eStr 9 p135 c136 ((⟨x130, x131, x132, x133, l134, x138, x139⟩ : journal_Journal).list_), own e_disk_sector 65 p143 c144 ((⟨l142, l146, x149, x150, x151, (⟨x152, x153⟩ : disk_Fall), x154, x155⟩ : disk_Disk).sure_), mpo (kInt .i64) (fun x : disk_sector => Value.agg #[.string x.s_, .int .i64 x.at_]) b148 ((⟨l142, l146, x149, x150, x151, (⟨x152, x153⟩ : disk_Fall), x154, x155⟩ : disk_Disk).wait_), own eStr 9 r156_p4 r156_c5 r156_s1.list_] ++ F0) w) ?_ ?_
  · refine cw_region ?_
    refine ow_vals 4 (j := 4) [1, 2, 3, 15, 16, 17, 116, 117] [(1, .int .i64 x1), (2, .int .i64 x2), (3, .int .i64 x3), (15, .pointer (some ⟨r43_b2, 0, none⟩)), (16, .pointer (some ⟨r156_b2, 0, none⟩)), (17, .int .i64 0), (116, .bool true), (117, .pointer (some ⟨r43_b2, 0, none⟩))] rfl (by kernel_rfl) ?_
    obtain ⟨r224, h225, hF⟩ := bind_some hF
    refine ow_pw rfl (pw_call (F := [pt r38_b2 #[.pointer (some ⟨r28_b2, 0, none⟩), .int .i64 r38_s1.boot_, .int .i64 r38_s1.n_] 72, pt r156_b2 #[.pointer (some ⟨r38_b2, 0, none⟩), .int .i64 r156_s1.base_, .int .i64 r156_s1.size_, .int .i64 r156_s1.next_, .int .i64 r156_s1.last_, .slice r156_p4 r156_s1.list_.length r156_c5, .int .i64 r156_s1.sure_, .bool r156_s1.dead_] 26, own eStr 9 r156_p4 r156_c5 r156_s1.list_] ++ F0) rfl rfl rfl rfl rfl rfl rfl (by kernel_rfl) (perm_of_pulls [0, 3, 3, 1, 5, 2, 2] rfl) (c_journal_Journal_Used _ (⟨x130, x131, x132, x133, l134, x138, x139⟩ : journal_Journal) (⟨x140, x141⟩ : guard_Guard) (⟨l142, l146, x149, x150, x151, (⟨x152, x153⟩ : disk_Fall), x154, x155⟩ : disk_Disk) p135 c136 r43_b2 r43_b4 p143 c144 b148 r28_b2 r224 h225) ?_)
    rintro _ _ ⟨rfl, rfl⟩
    refine nw_H (H' := [imm I, pt r43_b2 #[.pointer (some ⟨r43_b4, 0, none⟩), .int .i64 ((⟨x130, x131, x132, x133, l134, x138, x139⟩ : journal_Journal).base_), .int .i64 ((⟨x130, x131, x132, x133, l134, x138, x139⟩ : journal_Journal).size_), .int .i64 ((⟨x130, x131, x132, x133, l134, x138, x139⟩ : journal_Journal).next_), .int .i64 ((⟨x130, x131, x132, x133, l134, x138, x139⟩ : journal_Journal).last_), .slice p135 ((⟨x130, x131, x132, x133, l134, x138, x139⟩ : journal_Journal).list_).length c136, .int .i64 ((⟨x130, x131, x132, x133, l134, x138, x139⟩ : journal_Journal).sure_), .bool ((⟨x130, x131, x132, x133, l134, x138, x139⟩ : journal_Journal).dead_)] 26, pt r43_b4 #[.pointer (some ⟨r28_b2, 0, none⟩), .int .i64 ((⟨x140, x141⟩ : guard_Guard).boot_), .int .i64 ((⟨x140, x141⟩ : guard_Guard).n_)] 72, pt r28_b2 #[.slice p143 ((⟨l142, l146, x149, x150, x151, (⟨x152, x153⟩ : disk_Fall), x154, x155⟩ : disk_Disk).sure_).length c144, .map (some b148), .bool ((⟨l142, l146, x149, x150, x151, (⟨x152, x153⟩ : disk_Fall), x154, x155⟩ : disk_Disk).off_), .bool ((⟨l142, l146, x149, x150, x151, (⟨x152, x153⟩ : disk_Fall), x154, x155⟩ : disk_Disk).armed_), .int .i64 ((⟨l142, l146, x149, x150, x151, (⟨x152, x153⟩ : disk_Fall), x154, x155⟩ : disk_Disk).left_), .int .u64 ((⟨l142, l146, x149, x150, x151, (⟨x152, x153⟩ : disk_Fall), x154, x155⟩ : disk_Disk).fall_.Keep), .int .i64 ((⟨l142, l146, x149, x150, x151, (⟨x152, x153⟩ : disk_Fall), x154, x155⟩ : disk_Disk).fall_.Tear), .int .i64 ((⟨l142, l146, x149, x150, x151, (⟨x152, x153⟩ : disk_Fall), x154, x155⟩ : disk_Disk).acts_), .int .i64 ((⟨l142, l146, x149, x150, x151, (⟨x152, x153⟩ : disk_Fall), x154, x155⟩ : disk_Disk).falls_)] 62, own eStr 9 p135 c136 ((⟨x130, x131, x132, x133, l134, x138, x139⟩ : journal_Journal).list_), own e_disk_sector 65 p143 c144 ((⟨l142, l146, x149, x150, x151, (⟨x152, x153⟩ : disk_Fall), x154, x155⟩ : disk_Disk).sure_), mpo (kInt .i64) (fun x : disk_sector => Value.agg #[.string x.s_, .int .i64 x.at_]) b148 ((⟨l142, l146, x149, x150, x151, (⟨x152, x153⟩ : disk_Fall), x154, x155⟩ : disk_Disk).wait_), pt r38_b2 #[.pointer (some ⟨r28_b2, 0, none⟩), .int .i64 r38_s1.boot_, .int .i64 r38_s1.n_] 72, pt r156_b2 #[.pointer (some ⟨r38_b2, 0, none⟩), .int .i64 r156_s1.base_, .int .i64 r156_s1.size_, .int .i64 r156_s1.next_, .int .i64 r156_s1.last_, .slice r156_p4 r156_s1.list_.length r156_c5, .int .i64 r156_s1.sure_, .bool r156_s1.dead_] 26, own eStr 9 r156_p4 r156_c5 r156_s1.list_] ++ F0) rfl (nw_ow ?_)
    refine ow_vals 3 (j := 8) [1, 2, 3, 15, 16, 17, 121] [(1, .int .i64 x1), (2, .int .i64 x2), (3, .int .i64 x3), (15, .pointer (some ⟨r43_b2, 0, none⟩)), (16, .pointer (some ⟨r156_b2, 0, none⟩)), (17, .int .i64 0), (121, .bool (decide (r224 > 0)))] rfl (by kernel_rfl) ?_
    rcases if_some hF with ⟨h226, hF⟩ | ⟨h226, hF⟩
    · refine ow_slots (L' := [(1, .int .i64 x1), (2, .int .i64 x2), (3, .int .i64 x3), (15, .pointer (some ⟨r43_b2, 0, none⟩)), (16, .pointer (some ⟨r156_b2, 0, none⟩)), (17, .int .i64 0), (121, .bool true)]) (by rw [h226]) ?_
      refine ow_vals 4 (j := 12) [2, 3, 15, 16, 17, 125] [(2, .int .i64 x2), (3, .int .i64 x3), (15, .pointer (some ⟨r43_b2, 0, none⟩)), (16, .pointer (some ⟨r156_b2, 0, none⟩)), (17, .int .i64 0), (125, .bool (x1 == 3))] rfl (by kernel_rfl) ?_
      rcases if_some hF with ⟨h227, hF⟩ | ⟨h227, hF⟩
      · refine ow_slots (L' := [(2, .int .i64 x2), (3, .int .i64 x3), (15, .pointer (some ⟨r43_b2, 0, none⟩)), (16, .pointer (some ⟨r156_b2, 0, none⟩)), (17, .int .i64 0), (125, .bool true)]) (by rw [h227]) ?_
        refine ow_vals 4 (j := 16) [2, 15, 16, 17, 129] [(2, .int .i64 x2), (15, .pointer (some ⟨r43_b2, 0, none⟩)), (16, .pointer (some ⟨r156_b2, 0, none⟩)), (17, .int .i64 0), (129, .bool (x3 == 7))] rfl (by kernel_rfl) ?_
        rcases if_some hF with ⟨h228, hF⟩ | ⟨h228, hF⟩
        · refine ow_slots (L' := [(2, .int .i64 x2), (15, .pointer (some ⟨r43_b2, 0, none⟩)), (16, .pointer (some ⟨r156_b2, 0, none⟩)), (17, .int .i64 0), (129, .bool true)]) (by rw [h228]) ?_
          refine ow_vals 2 (j := 18) [2, 16, 17, 129, 130, 131] [(2, .int .i64 x2), (16, .pointer (some ⟨r156_b2, 0, none⟩)), (17, .int .i64 0), (129, .bool true), (130, .int .i64 x2), (131, .pointer (some ⟨r43_b2, 0, none⟩))] rfl (by kernel_rfl) ?_
          obtain ⟨r229, h230, hF⟩ := bind_some hF
          refine ow_pw rfl (pw_call (F := [pt r38_b2 #[.pointer (some ⟨r28_b2, 0, none⟩), .int .i64 r38_s1.boot_, .int .i64 r38_s1.n_] 72, pt r156_b2 #[.pointer (some ⟨r38_b2, 0, none⟩), .int .i64 r156_s1.base_, .int .i64 r156_s1.size_, .int .i64 r156_s1.next_, .int .i64 r156_s1.last_, .slice r156_p4 r156_s1.list_.length r156_c5, .int .i64 r156_s1.sure_, .bool r156_s1.dead_] 26, own eStr 9 r156_p4 r156_c5 r156_s1.list_] ++ F0) rfl rfl rfl rfl rfl rfl rfl (by kernel_rfl) (perm_of_pulls [0, 0, 0, 0, 0, 0, 0] rfl) (c_journal_Journal_Used _ (⟨x130, x131, x132, x133, l134, x138, x139⟩ : journal_Journal) (⟨x140, x141⟩ : guard_Guard) (⟨l142, l146, x149, x150, x151, (⟨x152, x153⟩ : disk_Fall), x154, x155⟩ : disk_Disk) p135 c136 r43_b2 r43_b4 p143 c144 b148 r28_b2 r229 h230) ?_)
          rintro _ _ ⟨rfl, rfl⟩
          refine nw_H (H' := [imm I, pt r43_b2 #[.pointer (some ⟨r43_b4, 0, none⟩), .int .i64 ((⟨x130, x131, x132, x133, l134, x138, x139⟩ : journal_Journal).base_), .int .i64 ((⟨x130, x131, x132, x133, l134, x138, x139⟩ : journal_Journal).size_), .int .i64 ((⟨x130, x131, x132, x133, l134, x138, x139⟩ : journal_Journal).next_), .int .i64 ((⟨x130, x131, x132, x133, l134, x138, x139⟩ : journal_Journal).last_), .slice p135 ((⟨x130, x131, x132, x133, l134, x138, x139⟩ : journal_Journal).list_).length c136, .int .i64 ((⟨x130, x131, x132, x133, l134, x138, x139⟩ : journal_Journal).sure_), .bool ((⟨x130, x131, x132, x133, l134, x138, x139⟩ : journal_Journal).dead_)] 26, pt r43_b4 #[.pointer (some ⟨r28_b2, 0, none⟩), .int .i64 ((⟨x140, x141⟩ : guard_Guard).boot_), .int .i64 ((⟨x140, x141⟩ : guard_Guard).n_)] 72, pt r28_b2 #[.slice p143 ((⟨l142, l146, x149, x150, x151, (⟨x152, x153⟩ : disk_Fall), x154, x155⟩ : disk_Disk).sure_).length c144, .map (some b148), .bool ((⟨l142, l146, x149, x150, x151, (⟨x152, x153⟩ : disk_Fall), x154, x155⟩ : disk_Disk).off_), .bool ((⟨l142, l146, x149, x150, x151, (⟨x152, x153⟩ : disk_Fall), x154, x155⟩ : disk_Disk).armed_), .int .i64 ((⟨l142, l146, x149, x150, x151, (⟨x152, x153⟩ : disk_Fall), x154, x155⟩ : disk_Disk).left_), .int .u64 ((⟨l142, l146, x149, x150, x151, (⟨x152, x153⟩ : disk_Fall), x154, x155⟩ : disk_Disk).fall_.Keep), .int .i64 ((⟨l142, l146, x149, x150, x151, (⟨x152, x153⟩ : disk_Fall), x154, x155⟩ : disk_Disk).fall_.Tear), .int .i64 ((⟨l142, l146, x149, x150, x151, (⟨x152, x153⟩ : disk_Fall), x154, x155⟩ : disk_Disk).acts_), .int .i64 ((⟨l142, l146, x149, x150, x151, (⟨x152, x153⟩ : disk_Fall), x154, x155⟩ : disk_Disk).falls_)] 62, own eStr 9 p135 c136 ((⟨x130, x131, x132, x133, l134, x138, x139⟩ : journal_Journal).list_), own e_disk_sector 65 p143 c144 ((⟨l142, l146, x149, x150, x151, (⟨x152, x153⟩ : disk_Fall), x154, x155⟩ : disk_Disk).sure_), mpo (kInt .i64) (fun x : disk_sector => Value.agg #[.string x.s_, .int .i64 x.at_]) b148 ((⟨l142, l146, x149, x150, x151, (⟨x152, x153⟩ : disk_Fall), x154, x155⟩ : disk_Disk).wait_), pt r38_b2 #[.pointer (some ⟨r28_b2, 0, none⟩), .int .i64 r38_s1.boot_, .int .i64 r38_s1.n_] 72, pt r156_b2 #[.pointer (some ⟨r38_b2, 0, none⟩), .int .i64 r156_s1.base_, .int .i64 r156_s1.size_, .int .i64 r156_s1.next_, .int .i64 r156_s1.last_, .slice r156_p4 r156_s1.list_.length r156_c5, .int .i64 r156_s1.sure_, .bool r156_s1.dead_] 26, own eStr 9 r156_p4 r156_c5 r156_s1.list_] ++ F0) rfl (nw_ow ?_)
          refine ow_vals 3 (j := 22) [2, 16, 17, 20] [(2, .int .i64 x2), (16, .pointer (some ⟨r156_b2, 0, none⟩)), (17, .int .i64 0), (20, .bool (decide (x2 ≥ r229)))] rfl (by kernel_rfl) ?_
          refine ow_end rfl ?_
          have hR := Option.some.inj hF
          exact fun a w hf hs => ⟨decide (x2 ≥ r229), hR, hf.keep [2, 16, 17, 20], sat_to [0, 0, 0, 0, 3, 3, 0, 0, 0, 0] 0 rfl hs⟩
        refine ow_slots (L' := [(2, .int .i64 x2), (15, .pointer (some ⟨r43_b2, 0, none⟩)), (16, .pointer (some ⟨r156_b2, 0, none⟩)), (17, .int .i64 0), (129, .bool false)]) (by rw [h228]) ?_
        refine ow_vals 6 (j := 22) [2, 16, 17, 20] [(2, .int .i64 x2), (16, .pointer (some ⟨r156_b2, 0, none⟩)), (17, .int .i64 0), (20, .bool false)] rfl (by kernel_rfl) ?_
        refine ow_end rfl ?_
        have hR := Option.some.inj hF
        exact fun a w hf hs => ⟨false, hR, hf.keep [2, 16, 17, 20], sat_to [0, 0, 0, 0, 3, 3, 0, 0, 0, 0] 0 rfl hs⟩
      refine ow_slots (L' := [(2, .int .i64 x2), (3, .int .i64 x3), (15, .pointer (some ⟨r43_b2, 0, none⟩)), (16, .pointer (some ⟨r156_b2, 0, none⟩)), (17, .int .i64 0), (125, .bool false)]) (by rw [h227]) ?_
      refine ow_vals 10 (j := 22) [2, 16, 17, 20] [(2, .int .i64 x2), (16, .pointer (some ⟨r156_b2, 0, none⟩)), (17, .int .i64 0), (20, .bool false)] rfl (by kernel_rfl) ?_
      refine ow_end rfl ?_
      have hR := Option.some.inj hF
      exact fun a w hf hs => ⟨false, hR, hf.keep [2, 16, 17, 20], sat_to [0, 0, 0, 0, 3, 3, 0, 0, 0, 0] 0 rfl hs⟩
    refine ow_slots (L' := [(1, .int .i64 x1), (2, .int .i64 x2), (3, .int .i64 x3), (15, .pointer (some ⟨r43_b2, 0, none⟩)), (16, .pointer (some ⟨r156_b2, 0, none⟩)), (17, .int .i64 0), (121, .bool false)]) (by rw [h226]) ?_
    refine ow_vals 14 (j := 22) [2, 16, 17, 20] [(2, .int .i64 x2), (16, .pointer (some ⟨r156_b2, 0, none⟩)), (17, .int .i64 0), (20, .bool false)] rfl (by kernel_rfl) ?_
    refine ow_end rfl ?_
    have hR := Option.some.inj hF
    exact fun a w hf hs => ⟨false, hR, hf.keep [2, 16, 17, 20], sat_to [0, 0, 0, 0, 3, 3, 0, 0, 0, 0] 0 rfl hs⟩
  rintro a w ⟨x231, hv, hf, hs⟩
  subst hv
  replace hF := hK223
  clear hK223
  try dsimp only at hF
  revert a w
  show CW _ _ _ 166 [(2, .int .i64 x2), (16, .pointer (some ⟨r156_b2, 0, none⟩)), (17, .int .i64 0), (20, .bool x231)] (SAT w0 ([imm I, pt r43_b2 #[.pointer (some ⟨r43_b4, 0, none⟩), .int .i64 ((⟨x130, x131, x132, x133, l134, x138, x139⟩ : journal_Journal).base_), .int .i64 ((⟨x130, x131, x132, x133, l134, x138, x139⟩ : journal_Journal).size_), .int .i64 ((⟨x130, x131, x132, x133, l134, x138, x139⟩ : journal_Journal).next_), .int .i64 ((⟨x130, x131, x132, x133, l134, x138, x139⟩ : journal_Journal).last_), .slice p135 ((⟨x130, x131, x132, x133, l134, x138, x139⟩ : journal_Journal).list_).length c136, .int .i64 ((⟨x130, x131, x132, x133, l134, x138, x139⟩ : journal_Journal).sure_), .bool ((⟨x130, x131, x132, x133, l134, x138, x139⟩ : journal_Journal).dead_)] 26, pt r43_b4 #[.pointer (some ⟨r28_b2, 0, none⟩), .int .i64 ((⟨x140, x141⟩ : guard_Guard).boot_), .int .i64 ((⟨x140, x141⟩ : guard_Guard).n_)] 72, pt r28_b2 #[.slice p143 ((⟨l142, l146, x149, x150, x151, (⟨x152, x153⟩ : disk_Fall), x154, x155⟩ : disk_Disk).sure_).length c144, .map (some b148), .bool ((⟨l142, l146, x149, x150, x151, (⟨x152, x153⟩ : disk_Fall), x154, x155⟩ : disk_Disk).off_), .bool ((⟨l142, l146, x149, x150, x151, (⟨x152, x153⟩ : disk_Fall), x154, x155⟩ : disk_Disk).armed_), .int .i64 ((⟨l142, l146, x149, x150, x151, (⟨x152, x153⟩ : disk_Fall), x154, x155⟩ : disk_Disk).left_), .int .u64 ((⟨l142, l146, x149, x150, x151, (⟨x152, x153⟩ : disk_Fall), x154, x155⟩ : disk_Disk).fall_.Keep), .int .i64 ((⟨l142, l146, x149, x150, x151, (⟨x152, x153⟩ : disk_Fall), x154, x155⟩ : disk_Disk).fall_.Tear), .int .i64 ((⟨l142, l146, x149, x150, x151, (⟨x152, x153⟩ : disk_Fall), x154, x155⟩ : disk_Disk).acts_), .int .i64 ((⟨l142, l146, x149, x150, x151, (⟨x152, x153⟩ : disk_Fall), x154, x155⟩ : disk_Disk).falls_)] 62, pt r38_b2 #[.pointer (some ⟨r28_b2, 0, none⟩), .int .i64 r38_s1.boot_, .int .i64 r38_s1.n_] 72, pt r156_b2 #[.pointer (some ⟨r38_b2, 0, none⟩), .int .i64 r156_s1.base_, .int .i64 r156_s1.size_, .int .i64 r156_s1.next_, .int .i64 r156_s1.last_, .slice r156_p4 r156_s1.list_.length r156_c5, .int .i64 r156_s1.sure_, .bool r156_s1.dead_] 26, own eStr 9 p135 c136 ((⟨x130, x131, x132, x133, l134, x138, x139⟩ : journal_Journal).list_), own e_disk_sector 65 p143 c144 ((⟨l142, l146, x149, x150, x151, (⟨x152, x153⟩ : disk_Fall), x154, x155⟩ : disk_Disk).sure_), mpo (kInt .i64) (fun x : disk_sector => Value.agg #[.string x.s_, .int .i64 x.at_]) b148 ((⟨l142, l146, x149, x150, x151, (⟨x152, x153⟩ : disk_Fall), x154, x155⟩ : disk_Disk).wait_), own eStr 9 r156_p4 r156_c5 r156_s1.list_] ++ F0))
  unfold F.law12_JournalOpens.r28 at hF
  refine cw_seq ?_
  refine cw_region ?_
  refine ow_vals 4 (j := 4) [2, 16, 20, 137, 138] [(2, .int .i64 x2), (16, .pointer (some ⟨r156_b2, 0, none⟩)), (20, .bool x231), (137, .bool true), (138, .pointer (some ⟨r156_b2, 0, none⟩))] rfl (by kernel_rfl) ?_
  obtain ⟨r232, h233, hF⟩ := bind_some hF
  refine ow_pw rfl (pw_call (F := [pt r43_b2 #[.pointer (some ⟨r43_b4, 0, none⟩), .int .i64 ((⟨x130, x131, x132, x133, l134, x138, x139⟩ : journal_Journal).base_), .int .i64 ((⟨x130, x131, x132, x133, l134, x138, x139⟩ : journal_Journal).size_), .int .i64 ((⟨x130, x131, x132, x133, l134, x138, x139⟩ : journal_Journal).next_), .int .i64 ((⟨x130, x131, x132, x133, l134, x138, x139⟩ : journal_Journal).last_), .slice p135 ((⟨x130, x131, x132, x133, l134, x138, x139⟩ : journal_Journal).list_).length c136, .int .i64 ((⟨x130, x131, x132, x133, l134, x138, x139⟩ : journal_Journal).sure_), .bool ((⟨x130, x131, x132, x133, l134, x138, x139⟩ : journal_Journal).dead_)] 26, pt r43_b4 #[.pointer (some ⟨r28_b2, 0, none⟩), .int .i64 ((⟨x140, x141⟩ : guard_Guard).boot_), .int .i64 ((⟨x140, x141⟩ : guard_Guard).n_)] 72, own eStr 9 p135 c136 ((⟨x130, x131, x132, x133, l134, x138, x139⟩ : journal_Journal).list_)] ++ F0) rfl rfl rfl rfl rfl rfl rfl (by kernel_rfl) (perm_of_pulls [0, 4, 3, 2, 5, 3, 3] rfl) (c_journal_Journal_Records_1 _ r156_s1 r38_s1 (⟨l142, l146, x149, x150, x151, (⟨x152, x153⟩ : disk_Fall), x154, x155⟩ : disk_Disk) r156_p4 r156_c5 r156_b2 r38_b2 p143 c144 b148 r28_b2 r232 h233) ?_)
  rintro _ _ ⟨r232_p1, r232_c2, rfl, rfl⟩
  refine nw_H (H' := [imm I, pt r156_b2 #[.pointer (some ⟨r38_b2, 0, none⟩), .int .i64 r156_s1.base_, .int .i64 r156_s1.size_, .int .i64 r156_s1.next_, .int .i64 r156_s1.last_, .slice r156_p4 r156_s1.list_.length r156_c5, .int .i64 r156_s1.sure_, .bool r156_s1.dead_] 26, pt r38_b2 #[.pointer (some ⟨r28_b2, 0, none⟩), .int .i64 r38_s1.boot_, .int .i64 r38_s1.n_] 72, pt r28_b2 #[.slice p143 ((⟨l142, l146, x149, x150, x151, (⟨x152, x153⟩ : disk_Fall), x154, x155⟩ : disk_Disk).sure_).length c144, .map (some b148), .bool ((⟨l142, l146, x149, x150, x151, (⟨x152, x153⟩ : disk_Fall), x154, x155⟩ : disk_Disk).off_), .bool ((⟨l142, l146, x149, x150, x151, (⟨x152, x153⟩ : disk_Fall), x154, x155⟩ : disk_Disk).armed_), .int .i64 ((⟨l142, l146, x149, x150, x151, (⟨x152, x153⟩ : disk_Fall), x154, x155⟩ : disk_Disk).left_), .int .u64 ((⟨l142, l146, x149, x150, x151, (⟨x152, x153⟩ : disk_Fall), x154, x155⟩ : disk_Disk).fall_.Keep), .int .i64 ((⟨l142, l146, x149, x150, x151, (⟨x152, x153⟩ : disk_Fall), x154, x155⟩ : disk_Disk).fall_.Tear), .int .i64 ((⟨l142, l146, x149, x150, x151, (⟨x152, x153⟩ : disk_Fall), x154, x155⟩ : disk_Disk).acts_), .int .i64 ((⟨l142, l146, x149, x150, x151, (⟨x152, x153⟩ : disk_Fall), x154, x155⟩ : disk_Disk).falls_)] 62, own eStr 9 r232_p1 r232_c2 r232, own eStr 9 r156_p4 r156_c5 r156_s1.list_, own e_disk_sector 65 p143 c144 ((⟨l142, l146, x149, x150, x151, (⟨x152, x153⟩ : disk_Fall), x154, x155⟩ : disk_Disk).sure_), mpo (kInt .i64) (fun x : disk_sector => Value.agg #[.string x.s_, .int .i64 x.at_]) b148 ((⟨l142, l146, x149, x150, x151, (⟨x152, x153⟩ : disk_Fall), x154, x155⟩ : disk_Disk).wait_), pt r43_b2 #[.pointer (some ⟨r43_b4, 0, none⟩), .int .i64 ((⟨x130, x131, x132, x133, l134, x138, x139⟩ : journal_Journal).base_), .int .i64 ((⟨x130, x131, x132, x133, l134, x138, x139⟩ : journal_Journal).size_), .int .i64 ((⟨x130, x131, x132, x133, l134, x138, x139⟩ : journal_Journal).next_), .int .i64 ((⟨x130, x131, x132, x133, l134, x138, x139⟩ : journal_Journal).last_), .slice p135 ((⟨x130, x131, x132, x133, l134, x138, x139⟩ : journal_Journal).list_).length c136, .int .i64 ((⟨x130, x131, x132, x133, l134, x138, x139⟩ : journal_Journal).sure_), .bool ((⟨x130, x131, x132, x133, l134, x138, x139⟩ : journal_Journal).dead_)] 26, pt r43_b4 #[.pointer (some ⟨r28_b2, 0, none⟩), .int .i64 ((⟨x140, x141⟩ : guard_Guard).boot_), .int .i64 ((⟨x140, x141⟩ : guard_Guard).n_)] 72, own eStr 9 p135 c136 ((⟨x130, x131, x132, x133, l134, x138, x139⟩ : journal_Journal).list_)] ++ F0) rfl (nw_ow ?_)
  refine ow_vals 6 (j := 11) [2, 16, 20, 145] [(2, .int .i64 x2), (16, .pointer (some ⟨r156_b2, 0, none⟩)), (20, .bool x231), (145, .bool (((r232.length : Int) == 1) == x231))] rfl (by kernel_rfl) ?_
  rcases if_some hF with ⟨h235, hF⟩ | ⟨h235, hF⟩
  · refine ow_slots (L' := [(2, .int .i64 x2), (16, .pointer (some ⟨r156_b2, 0, none⟩)), (20, .bool x231), (145, .bool true)]) (by rw [h235]) ?_
    refine ow_vals 1 (j := 12) [2, 16, 20, 145, 146] [(2, .int .i64 x2), (16, .pointer (some ⟨r156_b2, 0, none⟩)), (20, .bool x231), (145, .bool true), (146, .pointer (some ⟨r156_b2, 0, none⟩))] rfl (by kernel_rfl) ?_
    obtain ⟨r236, h237, hF⟩ := bind_some hF
    refine ow_pw rfl (pw_call (F := [own eStr 9 r232_p1 r232_c2 r232, pt r43_b2 #[.pointer (some ⟨r43_b4, 0, none⟩), .int .i64 ((⟨x130, x131, x132, x133, l134, x138, x139⟩ : journal_Journal).base_), .int .i64 ((⟨x130, x131, x132, x133, l134, x138, x139⟩ : journal_Journal).size_), .int .i64 ((⟨x130, x131, x132, x133, l134, x138, x139⟩ : journal_Journal).next_), .int .i64 ((⟨x130, x131, x132, x133, l134, x138, x139⟩ : journal_Journal).last_), .slice p135 ((⟨x130, x131, x132, x133, l134, x138, x139⟩ : journal_Journal).list_).length c136, .int .i64 ((⟨x130, x131, x132, x133, l134, x138, x139⟩ : journal_Journal).sure_), .bool ((⟨x130, x131, x132, x133, l134, x138, x139⟩ : journal_Journal).dead_)] 26, pt r43_b4 #[.pointer (some ⟨r28_b2, 0, none⟩), .int .i64 ((⟨x140, x141⟩ : guard_Guard).boot_), .int .i64 ((⟨x140, x141⟩ : guard_Guard).n_)] 72, own eStr 9 p135 c136 ((⟨x130, x131, x132, x133, l134, x138, x139⟩ : journal_Journal).list_)] ++ F0) rfl rfl rfl rfl rfl rfl rfl (by kernel_rfl) (perm_of_pulls [0, 0, 0, 0, 1, 1, 1] rfl) (c_journal_Journal_Records_1 _ r156_s1 r38_s1 (⟨l142, l146, x149, x150, x151, (⟨x152, x153⟩ : disk_Fall), x154, x155⟩ : disk_Disk) r156_p4 r156_c5 r156_b2 r38_b2 p143 c144 b148 r28_b2 r236 h237) ?_)
    rintro _ _ ⟨r236_p1, r236_c2, rfl, rfl⟩
    refine nw_H (H' := [imm I, pt r156_b2 #[.pointer (some ⟨r38_b2, 0, none⟩), .int .i64 r156_s1.base_, .int .i64 r156_s1.size_, .int .i64 r156_s1.next_, .int .i64 r156_s1.last_, .slice r156_p4 r156_s1.list_.length r156_c5, .int .i64 r156_s1.sure_, .bool r156_s1.dead_] 26, pt r38_b2 #[.pointer (some ⟨r28_b2, 0, none⟩), .int .i64 r38_s1.boot_, .int .i64 r38_s1.n_] 72, pt r28_b2 #[.slice p143 ((⟨l142, l146, x149, x150, x151, (⟨x152, x153⟩ : disk_Fall), x154, x155⟩ : disk_Disk).sure_).length c144, .map (some b148), .bool ((⟨l142, l146, x149, x150, x151, (⟨x152, x153⟩ : disk_Fall), x154, x155⟩ : disk_Disk).off_), .bool ((⟨l142, l146, x149, x150, x151, (⟨x152, x153⟩ : disk_Fall), x154, x155⟩ : disk_Disk).armed_), .int .i64 ((⟨l142, l146, x149, x150, x151, (⟨x152, x153⟩ : disk_Fall), x154, x155⟩ : disk_Disk).left_), .int .u64 ((⟨l142, l146, x149, x150, x151, (⟨x152, x153⟩ : disk_Fall), x154, x155⟩ : disk_Disk).fall_.Keep), .int .i64 ((⟨l142, l146, x149, x150, x151, (⟨x152, x153⟩ : disk_Fall), x154, x155⟩ : disk_Disk).fall_.Tear), .int .i64 ((⟨l142, l146, x149, x150, x151, (⟨x152, x153⟩ : disk_Fall), x154, x155⟩ : disk_Disk).acts_), .int .i64 ((⟨l142, l146, x149, x150, x151, (⟨x152, x153⟩ : disk_Fall), x154, x155⟩ : disk_Disk).falls_)] 62, own eStr 9 r236_p1 r236_c2 r236, own eStr 9 r156_p4 r156_c5 r156_s1.list_, own e_disk_sector 65 p143 c144 ((⟨l142, l146, x149, x150, x151, (⟨x152, x153⟩ : disk_Fall), x154, x155⟩ : disk_Disk).sure_), mpo (kInt .i64) (fun x : disk_sector => Value.agg #[.string x.s_, .int .i64 x.at_]) b148 ((⟨l142, l146, x149, x150, x151, (⟨x152, x153⟩ : disk_Fall), x154, x155⟩ : disk_Disk).wait_), own eStr 9 r232_p1 r232_c2 r232, pt r43_b2 #[.pointer (some ⟨r43_b4, 0, none⟩), .int .i64 ((⟨x130, x131, x132, x133, l134, x138, x139⟩ : journal_Journal).base_), .int .i64 ((⟨x130, x131, x132, x133, l134, x138, x139⟩ : journal_Journal).size_), .int .i64 ((⟨x130, x131, x132, x133, l134, x138, x139⟩ : journal_Journal).next_), .int .i64 ((⟨x130, x131, x132, x133, l134, x138, x139⟩ : journal_Journal).last_), .slice p135 ((⟨x130, x131, x132, x133, l134, x138, x139⟩ : journal_Journal).list_).length c136, .int .i64 ((⟨x130, x131, x132, x133, l134, x138, x139⟩ : journal_Journal).sure_), .bool ((⟨x130, x131, x132, x133, l134, x138, x139⟩ : journal_Journal).dead_)] 26, pt r43_b4 #[.pointer (some ⟨r28_b2, 0, none⟩), .int .i64 ((⟨x140, x141⟩ : guard_Guard).boot_), .int .i64 ((⟨x140, x141⟩ : guard_Guard).n_)] 72, own eStr 9 p135 c136 ((⟨x130, x131, x132, x133, l134, x138, x139⟩ : journal_Journal).list_)] ++ F0) rfl (nw_ow ?_)
    refine ow_vals 7 (j := 20) [2, 16, 154] [(2, .int .i64 x2), (16, .pointer (some ⟨r156_b2, 0, none⟩)), (154, .bool (((r236.length : Int) == 0) == (!x231)))] rfl (by kernel_rfl) ?_
    rcases if_some hF with ⟨h239, hF⟩ | ⟨h239, hF⟩
    · refine ow_slots (L' := [(2, .int .i64 x2), (16, .pointer (some ⟨r156_b2, 0, none⟩)), (154, .bool true)]) (by rw [h239]) ?_
      refine ow_vals 1 (j := 21) [2, 16, 154, 155] [(2, .int .i64 x2), (16, .pointer (some ⟨r156_b2, 0, none⟩)), (154, .bool true), (155, .pointer (some ⟨r156_b2, 0, none⟩))] rfl (by kernel_rfl) ?_
      obtain ⟨r240, h241, hF⟩ := bind_some hF
      refine ow_pw rfl (pw_call (F := [own eStr 9 r236_p1 r236_c2 r236, own eStr 9 r232_p1 r232_c2 r232, pt r43_b2 #[.pointer (some ⟨r43_b4, 0, none⟩), .int .i64 ((⟨x130, x131, x132, x133, l134, x138, x139⟩ : journal_Journal).base_), .int .i64 ((⟨x130, x131, x132, x133, l134, x138, x139⟩ : journal_Journal).size_), .int .i64 ((⟨x130, x131, x132, x133, l134, x138, x139⟩ : journal_Journal).next_), .int .i64 ((⟨x130, x131, x132, x133, l134, x138, x139⟩ : journal_Journal).last_), .slice p135 ((⟨x130, x131, x132, x133, l134, x138, x139⟩ : journal_Journal).list_).length c136, .int .i64 ((⟨x130, x131, x132, x133, l134, x138, x139⟩ : journal_Journal).sure_), .bool ((⟨x130, x131, x132, x133, l134, x138, x139⟩ : journal_Journal).dead_)] 26, pt r43_b4 #[.pointer (some ⟨r28_b2, 0, none⟩), .int .i64 ((⟨x140, x141⟩ : guard_Guard).boot_), .int .i64 ((⟨x140, x141⟩ : guard_Guard).n_)] 72, own eStr 9 p135 c136 ((⟨x130, x131, x132, x133, l134, x138, x139⟩ : journal_Journal).list_)] ++ F0) rfl rfl rfl rfl rfl rfl rfl (by kernel_rfl) (perm_of_pulls [0, 0, 0, 0, 1, 1, 1] rfl) (c_journal_Journal_Left _ r156_s1 r38_s1 (⟨l142, l146, x149, x150, x151, (⟨x152, x153⟩ : disk_Fall), x154, x155⟩ : disk_Disk) r156_p4 r156_c5 r156_b2 r38_b2 p143 c144 b148 r28_b2 r240 h241) ?_)
      rintro _ _ ⟨rfl, rfl⟩
      refine nw_H (H' := [imm I, pt r156_b2 #[.pointer (some ⟨r38_b2, 0, none⟩), .int .i64 r156_s1.base_, .int .i64 r156_s1.size_, .int .i64 r156_s1.next_, .int .i64 r156_s1.last_, .slice r156_p4 r156_s1.list_.length r156_c5, .int .i64 r156_s1.sure_, .bool r156_s1.dead_] 26, pt r38_b2 #[.pointer (some ⟨r28_b2, 0, none⟩), .int .i64 r38_s1.boot_, .int .i64 r38_s1.n_] 72, pt r28_b2 #[.slice p143 ((⟨l142, l146, x149, x150, x151, (⟨x152, x153⟩ : disk_Fall), x154, x155⟩ : disk_Disk).sure_).length c144, .map (some b148), .bool ((⟨l142, l146, x149, x150, x151, (⟨x152, x153⟩ : disk_Fall), x154, x155⟩ : disk_Disk).off_), .bool ((⟨l142, l146, x149, x150, x151, (⟨x152, x153⟩ : disk_Fall), x154, x155⟩ : disk_Disk).armed_), .int .i64 ((⟨l142, l146, x149, x150, x151, (⟨x152, x153⟩ : disk_Fall), x154, x155⟩ : disk_Disk).left_), .int .u64 ((⟨l142, l146, x149, x150, x151, (⟨x152, x153⟩ : disk_Fall), x154, x155⟩ : disk_Disk).fall_.Keep), .int .i64 ((⟨l142, l146, x149, x150, x151, (⟨x152, x153⟩ : disk_Fall), x154, x155⟩ : disk_Disk).fall_.Tear), .int .i64 ((⟨l142, l146, x149, x150, x151, (⟨x152, x153⟩ : disk_Fall), x154, x155⟩ : disk_Disk).acts_), .int .i64 ((⟨l142, l146, x149, x150, x151, (⟨x152, x153⟩ : disk_Fall), x154, x155⟩ : disk_Disk).falls_)] 62, own eStr 9 r156_p4 r156_c5 r156_s1.list_, own e_disk_sector 65 p143 c144 ((⟨l142, l146, x149, x150, x151, (⟨x152, x153⟩ : disk_Fall), x154, x155⟩ : disk_Disk).sure_), mpo (kInt .i64) (fun x : disk_sector => Value.agg #[.string x.s_, .int .i64 x.at_]) b148 ((⟨l142, l146, x149, x150, x151, (⟨x152, x153⟩ : disk_Fall), x154, x155⟩ : disk_Disk).wait_), own eStr 9 r236_p1 r236_c2 r236, own eStr 9 r232_p1 r232_c2 r232, pt r43_b2 #[.pointer (some ⟨r43_b4, 0, none⟩), .int .i64 ((⟨x130, x131, x132, x133, l134, x138, x139⟩ : journal_Journal).base_), .int .i64 ((⟨x130, x131, x132, x133, l134, x138, x139⟩ : journal_Journal).size_), .int .i64 ((⟨x130, x131, x132, x133, l134, x138, x139⟩ : journal_Journal).next_), .int .i64 ((⟨x130, x131, x132, x133, l134, x138, x139⟩ : journal_Journal).last_), .slice p135 ((⟨x130, x131, x132, x133, l134, x138, x139⟩ : journal_Journal).list_).length c136, .int .i64 ((⟨x130, x131, x132, x133, l134, x138, x139⟩ : journal_Journal).sure_), .bool ((⟨x130, x131, x132, x133, l134, x138, x139⟩ : journal_Journal).dead_)] 26, pt r43_b4 #[.pointer (some ⟨r28_b2, 0, none⟩), .int .i64 ((⟨x140, x141⟩ : guard_Guard).boot_), .int .i64 ((⟨x140, x141⟩ : guard_Guard).n_)] 72, own eStr 9 p135 c136 ((⟨x130, x131, x132, x133, l134, x138, x139⟩ : journal_Journal).list_)] ++ F0) rfl (nw_ow ?_)
      refine ow_vals 2 (j := 24) [154, 156, 157, 158] [(154, .bool true), (156, .int .i64 r240), (157, .int .i64 x2), (158, .pointer (some ⟨r156_b2, 0, none⟩))] rfl (by kernel_rfl) ?_
      obtain ⟨r242, h243, hF⟩ := bind_some hF
      refine ow_pw rfl (pw_call (F := [own eStr 9 r236_p1 r236_c2 r236, own eStr 9 r232_p1 r232_c2 r232, pt r43_b2 #[.pointer (some ⟨r43_b4, 0, none⟩), .int .i64 ((⟨x130, x131, x132, x133, l134, x138, x139⟩ : journal_Journal).base_), .int .i64 ((⟨x130, x131, x132, x133, l134, x138, x139⟩ : journal_Journal).size_), .int .i64 ((⟨x130, x131, x132, x133, l134, x138, x139⟩ : journal_Journal).next_), .int .i64 ((⟨x130, x131, x132, x133, l134, x138, x139⟩ : journal_Journal).last_), .slice p135 ((⟨x130, x131, x132, x133, l134, x138, x139⟩ : journal_Journal).list_).length c136, .int .i64 ((⟨x130, x131, x132, x133, l134, x138, x139⟩ : journal_Journal).sure_), .bool ((⟨x130, x131, x132, x133, l134, x138, x139⟩ : journal_Journal).dead_)] 26, pt r43_b4 #[.pointer (some ⟨r28_b2, 0, none⟩), .int .i64 ((⟨x140, x141⟩ : guard_Guard).boot_), .int .i64 ((⟨x140, x141⟩ : guard_Guard).n_)] 72, own eStr 9 p135 c136 ((⟨x130, x131, x132, x133, l134, x138, x139⟩ : journal_Journal).list_)] ++ F0) rfl rfl rfl rfl rfl rfl rfl (by kernel_rfl) (perm_of_pulls [0, 0, 0, 0, 0, 0, 0] rfl) (c_journal_Journal_Used _ r156_s1 r38_s1 (⟨l142, l146, x149, x150, x151, (⟨x152, x153⟩ : disk_Fall), x154, x155⟩ : disk_Disk) r156_p4 r156_c5 r156_b2 r38_b2 p143 c144 b148 r28_b2 r242 h243) ?_)
      rintro _ _ ⟨rfl, rfl⟩
      refine nw_H (H' := [imm I, pt r156_b2 #[.pointer (some ⟨r38_b2, 0, none⟩), .int .i64 r156_s1.base_, .int .i64 r156_s1.size_, .int .i64 r156_s1.next_, .int .i64 r156_s1.last_, .slice r156_p4 r156_s1.list_.length r156_c5, .int .i64 r156_s1.sure_, .bool r156_s1.dead_] 26, pt r38_b2 #[.pointer (some ⟨r28_b2, 0, none⟩), .int .i64 r38_s1.boot_, .int .i64 r38_s1.n_] 72, pt r28_b2 #[.slice p143 ((⟨l142, l146, x149, x150, x151, (⟨x152, x153⟩ : disk_Fall), x154, x155⟩ : disk_Disk).sure_).length c144, .map (some b148), .bool ((⟨l142, l146, x149, x150, x151, (⟨x152, x153⟩ : disk_Fall), x154, x155⟩ : disk_Disk).off_), .bool ((⟨l142, l146, x149, x150, x151, (⟨x152, x153⟩ : disk_Fall), x154, x155⟩ : disk_Disk).armed_), .int .i64 ((⟨l142, l146, x149, x150, x151, (⟨x152, x153⟩ : disk_Fall), x154, x155⟩ : disk_Disk).left_), .int .u64 ((⟨l142, l146, x149, x150, x151, (⟨x152, x153⟩ : disk_Fall), x154, x155⟩ : disk_Disk).fall_.Keep), .int .i64 ((⟨l142, l146, x149, x150, x151, (⟨x152, x153⟩ : disk_Fall), x154, x155⟩ : disk_Disk).fall_.Tear), .int .i64 ((⟨l142, l146, x149, x150, x151, (⟨x152, x153⟩ : disk_Fall), x154, x155⟩ : disk_Disk).acts_), .int .i64 ((⟨l142, l146, x149, x150, x151, (⟨x152, x153⟩ : disk_Fall), x154, x155⟩ : disk_Disk).falls_)] 62, own eStr 9 r156_p4 r156_c5 r156_s1.list_, own e_disk_sector 65 p143 c144 ((⟨l142, l146, x149, x150, x151, (⟨x152, x153⟩ : disk_Fall), x154, x155⟩ : disk_Disk).sure_), mpo (kInt .i64) (fun x : disk_sector => Value.agg #[.string x.s_, .int .i64 x.at_]) b148 ((⟨l142, l146, x149, x150, x151, (⟨x152, x153⟩ : disk_Fall), x154, x155⟩ : disk_Disk).wait_), own eStr 9 r236_p1 r236_c2 r236, own eStr 9 r232_p1 r232_c2 r232, pt r43_b2 #[.pointer (some ⟨r43_b4, 0, none⟩), .int .i64 ((⟨x130, x131, x132, x133, l134, x138, x139⟩ : journal_Journal).base_), .int .i64 ((⟨x130, x131, x132, x133, l134, x138, x139⟩ : journal_Journal).size_), .int .i64 ((⟨x130, x131, x132, x133, l134, x138, x139⟩ : journal_Journal).next_), .int .i64 ((⟨x130, x131, x132, x133, l134, x138, x139⟩ : journal_Journal).last_), .slice p135 ((⟨x130, x131, x132, x133, l134, x138, x139⟩ : journal_Journal).list_).length c136, .int .i64 ((⟨x130, x131, x132, x133, l134, x138, x139⟩ : journal_Journal).sure_), .bool ((⟨x130, x131, x132, x133, l134, x138, x139⟩ : journal_Journal).dead_)] 26, pt r43_b4 #[.pointer (some ⟨r28_b2, 0, none⟩), .int .i64 ((⟨x140, x141⟩ : guard_Guard).boot_), .int .i64 ((⟨x140, x141⟩ : guard_Guard).n_)] 72, own eStr 9 p135 c136 ((⟨x130, x131, x132, x133, l134, x138, x139⟩ : journal_Journal).list_)] ++ F0) rfl (nw_ow ?_)
      refine ow_vals 4 (j := 29) [163] [(163, .bool (r240 == (IntKind.i64.wrap (x2 - r242))))] rfl (by kernel_rfl) ?_
      rcases if_some hF with ⟨h244, hF⟩ | ⟨h244, hF⟩
      · refine ow_slots (L' := [(163, .bool true)]) (by rw [h244]) ?_
        obtain ⟨r245, h246, hF⟩ := bind_some hF
        refine ow_pw rfl (pw_call (F := [pt r156_b2 #[.pointer (some ⟨r38_b2, 0, none⟩), .int .i64 r156_s1.base_, .int .i64 r156_s1.size_, .int .i64 r156_s1.next_, .int .i64 r156_s1.last_, .slice r156_p4 r156_s1.list_.length r156_c5, .int .i64 r156_s1.sure_, .bool r156_s1.dead_] 26, pt r38_b2 #[.pointer (some ⟨r28_b2, 0, none⟩), .int .i64 r38_s1.boot_, .int .i64 r38_s1.n_] 72, pt r28_b2 #[.slice p143 ((⟨l142, l146, x149, x150, x151, (⟨x152, x153⟩ : disk_Fall), x154, x155⟩ : disk_Disk).sure_).length c144, .map (some b148), .bool ((⟨l142, l146, x149, x150, x151, (⟨x152, x153⟩ : disk_Fall), x154, x155⟩ : disk_Disk).off_), .bool ((⟨l142, l146, x149, x150, x151, (⟨x152, x153⟩ : disk_Fall), x154, x155⟩ : disk_Disk).armed_), .int .i64 ((⟨l142, l146, x149, x150, x151, (⟨x152, x153⟩ : disk_Fall), x154, x155⟩ : disk_Disk).left_), .int .u64 ((⟨l142, l146, x149, x150, x151, (⟨x152, x153⟩ : disk_Fall), x154, x155⟩ : disk_Disk).fall_.Keep), .int .i64 ((⟨l142, l146, x149, x150, x151, (⟨x152, x153⟩ : disk_Fall), x154, x155⟩ : disk_Disk).fall_.Tear), .int .i64 ((⟨l142, l146, x149, x150, x151, (⟨x152, x153⟩ : disk_Fall), x154, x155⟩ : disk_Disk).acts_), .int .i64 ((⟨l142, l146, x149, x150, x151, (⟨x152, x153⟩ : disk_Fall), x154, x155⟩ : disk_Disk).falls_)] 62, own eStr 9 r156_p4 r156_c5 r156_s1.list_, own e_disk_sector 65 p143 c144 ((⟨l142, l146, x149, x150, x151, (⟨x152, x153⟩ : disk_Fall), x154, x155⟩ : disk_Disk).sure_), mpo (kInt .i64) (fun x : disk_sector => Value.agg #[.string x.s_, .int .i64 x.at_]) b148 ((⟨l142, l146, x149, x150, x151, (⟨x152, x153⟩ : disk_Fall), x154, x155⟩ : disk_Disk).wait_), own eStr 9 r236_p1 r236_c2 r236, own eStr 9 r232_p1 r232_c2 r232, pt r43_b2 #[.pointer (some ⟨r43_b4, 0, none⟩), .int .i64 ((⟨x130, x131, x132, x133, l134, x138, x139⟩ : journal_Journal).base_), .int .i64 ((⟨x130, x131, x132, x133, l134, x138, x139⟩ : journal_Journal).size_), .int .i64 ((⟨x130, x131, x132, x133, l134, x138, x139⟩ : journal_Journal).next_), .int .i64 ((⟨x130, x131, x132, x133, l134, x138, x139⟩ : journal_Journal).last_), .slice p135 ((⟨x130, x131, x132, x133, l134, x138, x139⟩ : journal_Journal).list_).length c136, .int .i64 ((⟨x130, x131, x132, x133, l134, x138, x139⟩ : journal_Journal).sure_), .bool ((⟨x130, x131, x132, x133, l134, x138, x139⟩ : journal_Journal).dead_)] 26, pt r43_b4 #[.pointer (some ⟨r28_b2, 0, none⟩), .int .i64 ((⟨x140, x141⟩ : guard_Guard).boot_), .int .i64 ((⟨x140, x141⟩ : guard_Guard).n_)] 72, own eStr 9 p135 c136 ((⟨x130, x131, x132, x133, l134, x138, x139⟩ : journal_Journal).list_)] ++ F0) rfl rfl rfl rfl rfl rfl rfl (by kernel_rfl) (perm_of_pulls [0] rfl) (c_law12_awake _ r245 h246) ?_)
        rintro _ _ ⟨rfl, rfl⟩
        refine nw_H (H' := [imm I, pt r156_b2 #[.pointer (some ⟨r38_b2, 0, none⟩), .int .i64 r156_s1.base_, .int .i64 r156_s1.size_, .int .i64 r156_s1.next_, .int .i64 r156_s1.last_, .slice r156_p4 r156_s1.list_.length r156_c5, .int .i64 r156_s1.sure_, .bool r156_s1.dead_] 26, pt r38_b2 #[.pointer (some ⟨r28_b2, 0, none⟩), .int .i64 r38_s1.boot_, .int .i64 r38_s1.n_] 72, pt r28_b2 #[.slice p143 ((⟨l142, l146, x149, x150, x151, (⟨x152, x153⟩ : disk_Fall), x154, x155⟩ : disk_Disk).sure_).length c144, .map (some b148), .bool ((⟨l142, l146, x149, x150, x151, (⟨x152, x153⟩ : disk_Fall), x154, x155⟩ : disk_Disk).off_), .bool ((⟨l142, l146, x149, x150, x151, (⟨x152, x153⟩ : disk_Fall), x154, x155⟩ : disk_Disk).armed_), .int .i64 ((⟨l142, l146, x149, x150, x151, (⟨x152, x153⟩ : disk_Fall), x154, x155⟩ : disk_Disk).left_), .int .u64 ((⟨l142, l146, x149, x150, x151, (⟨x152, x153⟩ : disk_Fall), x154, x155⟩ : disk_Disk).fall_.Keep), .int .i64 ((⟨l142, l146, x149, x150, x151, (⟨x152, x153⟩ : disk_Fall), x154, x155⟩ : disk_Disk).fall_.Tear), .int .i64 ((⟨l142, l146, x149, x150, x151, (⟨x152, x153⟩ : disk_Fall), x154, x155⟩ : disk_Disk).acts_), .int .i64 ((⟨l142, l146, x149, x150, x151, (⟨x152, x153⟩ : disk_Fall), x154, x155⟩ : disk_Disk).falls_)] 62, own eStr 9 r156_p4 r156_c5 r156_s1.list_, own e_disk_sector 65 p143 c144 ((⟨l142, l146, x149, x150, x151, (⟨x152, x153⟩ : disk_Fall), x154, x155⟩ : disk_Disk).sure_), mpo (kInt .i64) (fun x : disk_sector => Value.agg #[.string x.s_, .int .i64 x.at_]) b148 ((⟨l142, l146, x149, x150, x151, (⟨x152, x153⟩ : disk_Fall), x154, x155⟩ : disk_Disk).wait_), own eStr 9 r236_p1 r236_c2 r236, own eStr 9 r232_p1 r232_c2 r232, pt r43_b2 #[.pointer (some ⟨r43_b4, 0, none⟩), .int .i64 ((⟨x130, x131, x132, x133, l134, x138, x139⟩ : journal_Journal).base_), .int .i64 ((⟨x130, x131, x132, x133, l134, x138, x139⟩ : journal_Journal).size_), .int .i64 ((⟨x130, x131, x132, x133, l134, x138, x139⟩ : journal_Journal).next_), .int .i64 ((⟨x130, x131, x132, x133, l134, x138, x139⟩ : journal_Journal).last_), .slice p135 ((⟨x130, x131, x132, x133, l134, x138, x139⟩ : journal_Journal).list_).length c136, .int .i64 ((⟨x130, x131, x132, x133, l134, x138, x139⟩ : journal_Journal).sure_), .bool ((⟨x130, x131, x132, x133, l134, x138, x139⟩ : journal_Journal).dead_)] 26, pt r43_b4 #[.pointer (some ⟨r28_b2, 0, none⟩), .int .i64 ((⟨x140, x141⟩ : guard_Guard).boot_), .int .i64 ((⟨x140, x141⟩ : guard_Guard).n_)] 72, own eStr 9 p135 c136 ((⟨x130, x131, x132, x133, l134, x138, x139⟩ : journal_Journal).list_)] ++ F0) rfl (nw_ow ?_)
        refine ow_vals 2 (j := 32) [10] [(10, .bool r245)] rfl (by kernel_rfl) ?_
        refine ow_end rfl ?_
        refine ew_then ?_
        refine cw_ret ?_
        have hR := Option.some.inj hF
        subst hR
        exact fin1 (H1 := [imm I]) (fun w hs => sat_to [1, 1, 1, 1, 1, 1, 1, 1, 1, 1, 1, 0] 11 rfl hs) rfl (rr_tmp rfl) ⟨rfl, rfl⟩
      refine ow_slots (L' := [(163, .bool false)]) (by rw [h244]) ?_
      refine ow_vals 3 (j := 32) [10] [(10, .bool false)] rfl (by kernel_rfl) ?_
      refine ow_end rfl ?_
      refine ew_then ?_
      refine cw_ret ?_
      have hR := Option.some.inj hF
      subst hR
      exact fin1 (H1 := [imm I]) (fun w hs => sat_to [1, 1, 1, 1, 1, 1, 1, 1, 1, 1, 1, 0] 11 rfl hs) rfl (rr_tmp rfl) ⟨rfl, rfl⟩
    refine ow_slots (L' := [(2, .int .i64 x2), (16, .pointer (some ⟨r156_b2, 0, none⟩)), (154, .bool false)]) (by rw [h239]) ?_
    refine ow_vals 12 (j := 32) [10] [(10, .bool false)] rfl (by kernel_rfl) ?_
    refine ow_end rfl ?_
    refine ew_then ?_
    refine cw_ret ?_
    have hR := Option.some.inj hF
    subst hR
    exact fin1 (H1 := [imm I]) (fun w hs => sat_to [1, 1, 1, 1, 1, 1, 1, 1, 1, 1, 1, 0] 11 rfl hs) rfl (rr_tmp rfl) ⟨rfl, rfl⟩
  refine ow_slots (L' := [(2, .int .i64 x2), (16, .pointer (some ⟨r156_b2, 0, none⟩)), (20, .bool x231), (145, .bool false)]) (by rw [h235]) ?_
  refine ow_vals 21 (j := 32) [10] [(10, .bool false)] rfl (by kernel_rfl) ?_
  refine ow_end rfl ?_
  refine ew_then ?_
  refine cw_ret ?_
  have hR := Option.some.inj hF
  subst hR
  exact fin1 (H1 := [imm I]) (fun w hs => sat_to [1, 1, 1, 1, 1, 1, 1, 1, 1, 1, 0] 10 rfl hs) rfl (rr_tmp rfl) ⟨rfl, rfl⟩

end Go.Proofs.YtgbloaophfaaoaaDoor
